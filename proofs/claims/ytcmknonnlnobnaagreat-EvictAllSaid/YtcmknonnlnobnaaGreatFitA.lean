/-
Data of the program, and as what it lies in rows.
-/
import Derived.Test.YtcmknonnlnobnaaGreatEngD
import Derived.Test.YtcmknonnlnobnaaGreatAfT
set_option linter.unusedVariables false
set_option linter.unusedSimpArgs false
set_option maxHeartbeats 4000000
namespace Go.Eng
open Go
abbrev Str := List UInt8
structure PairD where
 key : Str
 val : Str
 deriving DecidableEq
structure TermD where
 key : Str
 kind : Int
 vals : List Str
 deriving DecidableEq
structure TolD where
 key : Str
 val : Str
 any : Bool
 deriving DecidableEq
structure ResD where
 a : Int
 b : Int
 c : Int
 deriving DecidableEq
structure PodD where
 name : Str
 uid : Int
 prio : Int
 req : ResD
 ports : List Int
 labels : List PairD
 sel : List TermD
 tols : List TolD
 topo : Str
 anti : List TermD
 skew : Int
 even : List TermD
 node : Str
 term : Int
 deriving DecidableEq
structure NodeD where
 name : Str
 cap : ResD
 labels : List PairD
 taints : List PairD
 deriving DecidableEq
structure StD where
 nodes : List NodeD
 pods : List PodD
 deriving DecidableEq
def strR (s : Str) : List V := [.s s]
def intR (n : Int) : List V := [.i .i64 n]
def pairR (p : PairD) : List V := [.s p.key, .s p.val]
def termR (t : TermD) : List V := [.s t.key, .i .i64 t.kind, .sl none 1 (t.vals.map strR)]
def tolR (t : TolD) : List V := [.s t.key, .s t.val, .b t.any]
def resR (r : ResD) : List V := [.i .i64 r.a, .i .i64 r.b, .i .i64 r.c]
def podR (p : PodD) : List V := [.s p.name, .i .i64 p.uid, .i .i64 p.prio, .i .i64 p.req.a, .i .i64 p.req.b, .i .i64 p.req.c, .sl none 1 (p.ports.map intR), .sl none 2 (p.labels.map pairR),
 .sl none 3 (p.sel.map termR), .sl none 3 (p.tols.map tolR), .s p.topo, .sl none 3 (p.anti.map termR), .i .i64 p.skew, .sl none 3 (p.even.map termR), .s p.node, .i .i64 p.term]
def nodeR (n : NodeD) : List V := [.s n.name, .i .i64 n.cap.a, .i .i64 n.cap.b, .i .i64 n.cap.c, .sl none 2 (n.labels.map pairR), .sl none 2 (n.taints.map pairR)]
def stV (s : StD) : V := .agg [.sl none 6 (s.nodes.map nodeR), .sl none 16 (s.pods.map podR)]
theorem map_get {α β : Type} {f : α → β} {l : List α} {i : Nat} {x : α} (h : l[i]? = some x) : (l.map f)[i]? = some (f x) := by rw [List.getElem?_map, h]; rfl
theorem map_get' {α β : Type} {f : α → β} {l : List α} {i j : Nat} {x : α} (e : j = i) (h : l[i]? = some x) : (l.map f)[j]? = some (f x) := by subst e; exact map_get h
theorem deep_map {α : Type} {R : α → List V} (h : ∀ x, deeps (R x) = some (R x)) : ∀ l : List α, deepElems (l.map R) = some (l.map R)
 | [] => rfl
 | x :: r => by simp only [List.map_cons, deepElems, h x, deep_map h r]
theorem take_succ' {α : Type} {l : List α} {i : Nat} {x : α} (h : l[i]? = some x) : l.take (i + 1) = l.take i ++ [x] := by rw [List.take_add_one, h]; rfl
def NoneYet {α : Type} (p : α → Bool) (l : List α) (i : Nat) : Prop := ∀ (j : Nat) (e : α), j < i → l[j]? = some e → p e = false
section
variable {α : Type} {p : α → Bool} {l : List α} {i : Nat} {e : α}
theorem NoneYet.zero : NoneYet p l 0 := fun _ _ h => absurd h (Nat.not_lt_zero _)
theorem NoneYet.succ (h : NoneYet p l i) (he : l[i]? = some e) (hp : p e = false) : NoneYet p l (i + 1) := fun j x hj hx => by
 by_cases hji : j < i
 · exact h j x hji hx
 · obtain rfl : j = i := by omega
   rw [he] at hx; cases hx; exact hp
theorem NoneYet.all (h : NoneYet p l i) (hi : l.length ≤ i) : ∀ x ∈ l, p x = false := fun x hx => by
 obtain ⟨j, hj⟩ := List.mem_iff_getElem?.1 hx
 exact h j x (by have := (List.getElem?_eq_some_iff.1 hj).1; omega) hj
theorem find_some (he : l[i]? = some e) (hp : p e = true) (h : NoneYet p l i) : l.find? p = some e := by
 rw [List.find?_eq_some_iff_getElem]
 obtain ⟨h1, rfl⟩ := List.getElem?_eq_some_iff.1 he
 exact ⟨hp, i, h1, rfl, fun j hj => by simpa using h j _ hj (List.getElem?_eq_getElem (by omega))⟩
theorem find_none (h : ∀ x ∈ l, p x = false) : l.find? p = none := by
 rw [List.find?_eq_none]
 intro x hx
 simp [h x hx]
theorem any_some (he : l[i]? = some e) (hp : p e = true) : l.any p = true := List.any_eq_true.2 ⟨e, List.mem_of_getElem? he, hp⟩
theorem any_none (h : ∀ x ∈ l, p x = false) : l.any p = false := by
 rw [List.any_eq_false]
 intro x hx
 simp [h x hx]
end
/-! What a run asks for most, in few words. -/
section
variable {X Y : Prop}
theorem yf {c : Bool} (h : c = false) (y : Y) : SIf c X Y := .ff h y
theorem yt {c : Bool} (h : c = true) (x : X) : SIf c X Y := .tt h x
theorem yo {β : Type} {o : Option β} {n : Prop} {k : β → Prop} {x : β} (h : o = some x) (hk : k x) : SOpt o n k := .of h hk
theorem yn {β : Type} {o : Option β} {n : Prop} {k : β → Prop} (h : o = none) (hn : n) : SOpt o n k := .no h hn
theorem ye {β : Type} {o : Option β} {k : β → Prop} {x : β} (h : o = some x) (hk : k x) : SEx o k := .of h hk
theorem yc {c : Bool} (h : c = true) (x : X) : SChk c X := ⟨h, x⟩
theorem ys {v u : V} (h : v = u) (x : X) : SSame v u X := ⟨h, x⟩
theorem zdt {p : Prop} [Decidable p] (x : X) (h : p := by omega) : SIf (decide p) X Y := .dt h x
theorem zdf {p : Prop} [Decidable p] (y : Y) (h : ¬ p := by omega) : SIf (decide p) X Y := .df h y
theorem znt {p : Prop} [Decidable p] (x : X) (h : ¬ p := by omega) : SIf (!decide p) X Y := .nt h x
theorem znf {p : Prop} [Decidable p] (y : Y) (h : p := by omega) : SIf (!decide p) X Y := .nf h y
theorem zcd {p : Prop} [Decidable p] (k : X) (h : p := by omega) : SChk (decide p) X := .d h k
theorem zc3 {p q r : Prop} [Decidable p] [Decidable q] [Decidable r] (k : X) (h : p := by omega) (h' : q := by omega) (h2 : r := by omega) : SChk (decide p && decide q && decide r) X := .d3 h h' h2 k
theorem zci {i : Int} {n : Nat} (k : X) (h : 0 ≤ i := by omega) (h' : i < n := by omega) : SChk (idxOk i n) X := .ix h h' k
theorem zw {n : Int} {k : Int → Prop} (hk : k n) (h1 : -9223372036854775808 ≤ n := by omega) (h2 : n ≤ 9223372036854775807 := by omega) : SWrap .i64 n k := .w64 h1 h2 hk
end
theorem zz {X Y : Prop} (y : Y) (h : Y → X := by first | exact yf rfl | exact yt rfl | exact yo rfl | exact yc rfl | exact ys rfl | exact ye rfl | exact yn rfl | exact fun y => zw y | exact fun y => zdt y | exact fun y => zdf y | exact fun y => znt y | exact fun y => znf y | exact fun y => zcd y | exact fun y => zci y | exact fun y => zc3 y) : X := h y
theorem fle {f g : Fr} (h : Fr.le f g := by repeat (first | exact Fr.le_nil | refine Fr.le_cons rfl ?_)) : Fr.le f g := h
theorem celA {ρ : Ren} {b : Lim} {F : Fz} {cs ds : List V} (h : CeL ρ b F cs ds := by ((repeat (first | exact trivial | refine ⟨by first | exact ce_flat rfl | exact .nil | exact .tok | exact .ren rfl (Nat.le_of_ble_eq_true rfl) | exact .rows (by ((repeat (first | exact .nil | refine .cons (by ((repeat (first | exact .nil | refine .cons (by first | exact .refl _ | exact .nil _) ?_)); first | done | fail)) ?_)); first | done | fail)), ?_⟩)); first | done | fail)) : CeL ρ b F cs ds := h
theorem nwA {cs ds : List V} (h : NwL cs ds := by ((repeat (first | exact trivial | refine ⟨by first | exact ce1_free rfl | exact .inl .nil | exact .inl .tok | exact .inl (.rows (by ((repeat (first | exact .nil | refine .cons (by ((repeat (first | exact .nil | refine .cons (by first | exact .refl _ | exact .nil _) ?_)); first | done | fail)) ?_)); first | done | fail))) | exact .inr (.inl ⟨_, _, rfl, rfl, (by ((repeat (first | exact trivial | refine ⟨by first | exact ce_flat rfl | exact .nil | exact .tok | exact .ren rfl (Nat.le_of_ble_eq_true rfl) | exact .rows (by ((repeat (first | exact .nil | refine .cons (by ((repeat (first | exact .nil | refine .cons (by first | exact .refl _ | exact .nil _) ?_)); first | done | fail)) ?_)); first | done | fail)), ?_⟩)); first | done | fail))⟩), ?_⟩)); first | done | fail)) : NwL cs ds := h
theorem cA {A : CallP} {f : Nat} {as : List V} {h : Heap} {K : V → Heap → Prop} {X : Prop} (g : X → A f as h K) (x : X) : SCall A f as h K := ⟨g x⟩
theorem gE {α : Type} {l : List α} {i : Nat} (h : i < l.length) : l[i]? = some l[i] := List.getElem?_eq_getElem h
theorem acc_step {n : Nat} {x : PodD} {es : List PodD} (hn : n = es.length) : List.drop 0 (List.take (0 + n) (es.map podR)) ++ [podR x] = (es ++ [x]).map podR := by
 subst hn
 rw [Nat.zero_add, List.drop_zero, List.take_of_length_le (by rw [List.length_map]; exact Nat.le_refl _), List.map_append]
 rfl
theorem ceLL_acc {ρ : Ren} {b : Lim} {F : Fz} {n : Nat} {x : PodD} {es : List PodD} (hn : n = es.length) : CeLL ρ b F (List.drop 0 (List.take (0 + n) (es.map podR)) ++ [podR x]) ((es ++ [x]).map podR) := by
 rw [acc_step hn]
 exact ceLL_map (fun _ => rfl) _
def seenR (l : List Int) : List (V × V) := l.map fun n => (V.i .i64 n, V.b true)
theorem ceM_seen {ρ : Ren} {b : Lim} {F : Fz} : ∀ l : List Int, CeM ρ b F (seenR l) (seenR l)
 | [] => trivial
 | _ :: r => ⟨⟨rfl, ce1_free rfl⟩, ceM_seen r⟩
theorem tL0 {fr fr' : Fr} {st : St} (hf : FrC ren0' ⟨0, 0⟩ noFz fr' fr := by repeat (first | exact FrC.nil | refine FrC.cons (by first | exact ce2_free rfl | exact ce2_untok | exact ce2_nil) ?_)) : TelR fr st fr' (gst noG) := tel0 hf
theorem tL (ks : List Nat) {n : Nat} {objs : List (Nat × Obj)} {fr fr' : Fr} {st : St} (hn : ks.length = n := by rfl) (hd : ks.Nodup := by decide) (hl : ObsC ⟨id, fun i => ks.getD i 0⟩ noFz .l (fun i => ks.getD i 0) n ⟨0, n⟩ st.l objs := by ((repeat (first | exact trivial | refine ⟨⟨Nat.le_of_ble_eq_true rfl, rfl, _, rfl, by first | exact trivial | exact ⟨rfl, trivial⟩ | exact ceL_flat rfl | exact ⟨rfl, ceLL_map (fun _ => rfl) _⟩ | exact ⟨rfl, ceL_flat rfl, trivial⟩ | exact ⟨rfl, ceM_seen _⟩ | exact ⟨rfl, ceLL_acc (by assumption)⟩ | exact (by ((repeat (first | exact trivial | refine ⟨by first | exact ce_flat rfl | exact .nil | exact .tok | exact .ren rfl (Nat.le_of_ble_eq_true rfl) | exact .rows (by ((repeat (first | exact .nil | refine .cons (by ((repeat (first | exact .nil | refine .cons (by first | exact .refl _ | exact .nil _) ?_)); first | done | fail)) ?_)); first | done | fail)), ?_⟩)); first | done | fail))⟩, ?_⟩)); first | done | fail)) (hf : FrC ⟨id, fun i => ks.getD i 0⟩ ⟨0, n⟩ noFz fr' fr := by repeat (first | exact FrC.nil | refine FrC.cons (by first | exact ce2_free rfl | exact ce2_p rfl (Nat.le_of_ble_eq_true rfl) | exact ce2_tok rfl (Nat.le_of_ble_eq_true rfl) | exact ce2_untok | exact ce2_nil) ?_)) :
 TelR fr st fr' ⟨noG, ⟨n, objs⟩⟩ := telL ks hn hd hl hf
theorem tG (gs ls : List Nat) {n m : Nat} {gobjs lobjs : List (Nat × Obj)} {fr fr' : Fr} {st : St} (hn : gs.length = n := by rfl) (hm : ls.length = m := by rfl) (hd : gs.Nodup := by decide) (he : ls.Nodup := by decide)
 (hg : ObsC ⟨fun i => gs.getD i 0, fun i => ls.getD i 0⟩ noFz .g (fun i => gs.getD i 0) n ⟨n, 0⟩ st.g gobjs := by ((repeat (first | exact trivial | refine ⟨⟨Nat.le_of_ble_eq_true rfl, rfl, _, rfl, by first | exact trivial | exact ⟨rfl, trivial⟩ | exact ceL_flat rfl | exact ⟨rfl, ceLL_map (fun _ => rfl) _⟩ | exact ⟨rfl, ceL_flat rfl, trivial⟩ | exact ⟨rfl, ceM_seen _⟩ | exact ⟨rfl, ceLL_acc (by assumption)⟩ | exact (by ((repeat (first | exact trivial | refine ⟨by first | exact ce_flat rfl | exact .nil | exact .tok | exact .ren rfl (Nat.le_of_ble_eq_true rfl) | exact .rows (by ((repeat (first | exact .nil | refine .cons (by ((repeat (first | exact .nil | refine .cons (by first | exact .refl _ | exact .nil _) ?_)); first | done | fail)) ?_)); first | done | fail)), ?_⟩)); first | done | fail))⟩, ?_⟩)); first | done | fail)) (hl : ObsC ⟨fun i => gs.getD i 0, fun i => ls.getD i 0⟩ noFz .l (fun i => ls.getD i 0) m ⟨n, m⟩ st.l lobjs := by ((repeat (first | exact trivial | refine ⟨⟨Nat.le_of_ble_eq_true rfl, rfl, _, rfl, by first | exact trivial | exact ⟨rfl, trivial⟩ | exact ceL_flat rfl | exact ⟨rfl, ceLL_map (fun _ => rfl) _⟩ | exact ⟨rfl, ceL_flat rfl, trivial⟩ | exact ⟨rfl, ceM_seen _⟩ | exact ⟨rfl, ceLL_acc (by assumption)⟩ | exact (by ((repeat (first | exact trivial | refine ⟨by first | exact ce_flat rfl | exact .nil | exact .tok | exact .ren rfl (Nat.le_of_ble_eq_true rfl) | exact .rows (by ((repeat (first | exact .nil | refine .cons (by ((repeat (first | exact .nil | refine .cons (by first | exact .refl _ | exact .nil _) ?_)); first | done | fail)) ?_)); first | done | fail)), ?_⟩)); first | done | fail))⟩, ?_⟩)); first | done | fail))
 (hf : FrC ⟨fun i => gs.getD i 0, fun i => ls.getD i 0⟩ ⟨n, m⟩ noFz fr' fr := by ((repeat (first | exact FrC.nil | refine FrC.cons (by first | exact ce2_free rfl | exact ce2_p rfl (Nat.le_of_ble_eq_true rfl) | exact ce2_ms rfl (Nat.le_of_ble_eq_true rfl) | exact ce2_m rfl (Nat.le_of_ble_eq_true rfl) | exact ce2_tok rfl (Nat.le_of_ble_eq_true rfl) | exact ce2_untok | exact ce2_nil | exact .inl (.inl (.rows (by ((repeat (first | exact .nil | refine .cons (by ((repeat (first | exact .nil | refine .cons (by first | exact .refl _ | exact .nil _) ?_)); first | done | fail)) ?_)); first | done | fail)))) | exact .inl (.inr (.inl ⟨_, _, rfl, rfl, (by ((repeat (first | exact trivial | refine ⟨by first | exact ce_flat rfl | exact .nil | exact .tok | exact .ren rfl (Nat.le_of_ble_eq_true rfl) | exact .rows (by ((repeat (first | exact .nil | refine .cons (by ((repeat (first | exact .nil | refine .cons (by first | exact .refl _ | exact .nil _) ?_)); first | done | fail)) ?_)); first | done | fail)), ?_⟩)); first | done | fail))⟩))) ?_)); first | done | fail)) : TelR fr st fr' ⟨⟨n, gobjs⟩, ⟨m, lobjs⟩⟩ := telGL gs ls hn hm hd he hg hl hf
end Go.Eng
/-
Library functions on rows: IndexFunc, ContainsFunc, Index, Contains, Equal, EqualFunc, Clone.
-/
namespace Go.Eng
open Go
def ixRes {α : Type} (p : α → Bool) (l : List α) : Int :=
 match l.findIdx? p with
 | some j => j
 | none => -1
theorem findIdx_some {α : Type} {p : α → Bool} {l : List α} {i : Nat} {e : α} (he : l[i]? = some e) (hp : p e = true) (hb : ∀ (j : Nat) (x : α), j < i → l[j]? = some x → p x = false) : ixRes p l = i := by
 have : l.findIdx? p = some i := by
  rw [List.findIdx?_eq_some_iff_getElem]
  obtain ⟨h, rfl⟩ := List.getElem?_eq_some_iff.1 he
  exact ⟨h, hp, fun j hj => by simpa using hb j _ hj (List.getElem?_eq_getElem (by omega))⟩
 rw [ixRes, this]
theorem findIdx_none {α : Type} {p : α → Bool} {l : List α} (hb : ∀ (j : Nat) (x : α), l[j]? = some x → p x = false) : ixRes p l = -1 := by
 have : l.findIdx? p = none := by
  rw [List.findIdx?_eq_none_iff]
  intro x hx
  obtain ⟨j, hj⟩ := List.mem_iff_getElem?.1 hx
  exact hb j x hj
 rw [ixRes, this]
theorem ixRes_any {α : Type} {p : α → Bool} {l : List α} : decide (ixRes p l ≥ 0) = l.any p := by
 unfold ixRes
 cases h : l.findIdx? p with
 | none =>
   rw [List.findIdx?_eq_none_iff] at h
   have : l.any p = false := by rw [List.any_eq_false]; intro x hx; simp [h x hx]
   rw [this]
   rfl
 | some j =>
   rw [List.findIdx?_eq_some_iff_getElem] at h
   obtain ⟨hj, hp, _⟩ := h
   have : l.any p = true := List.any_eq_true.2 ⟨_, List.getElem_mem hj, hp⟩
   rw [this]
   exact decide_eq_true (Int.natCast_nonneg j)
def ixfText (sz : Nat) (n : Option Nat) : AFn := ⟨2, (.seq (.reg [⟨(some 4), .asg (.c (.i .i64 0)), none, [4]⟩])
 (.seq (.seq (.reg [⟨(some 6), .mv (.t 0), none, []⟩,
 ⟨(some 7), .lenL (.t 6), none, [6]⟩,
 ⟨(some 8), .mv (.c (.i .i64 0)), none, []⟩])
 (.blk 0 (.loop (.seq (.reg [⟨(some 9), .bin .lss (.t 8) (.t 7), none, []⟩])
 (.seq (.cond (.t 9) .skip
 (.exit 0))
 (.seq (.blk 1 (.seq (.reg [⟨(some 10), .mv (.t 8), none, []⟩,
 ⟨(some 5), .asg (.t 10), none, [10]⟩])
 (.seq (.reg [⟨(some 11), .mv (.t 1), none, []⟩,
 ⟨(some 12), .mv (.t 0), none, []⟩,
 ⟨(some 13), .mv (.t 5), none, []⟩,
 ⟨(some 14), .iasl sz (.t 12) (.t 13), none, [12, 13]⟩,
 ⟨(some 15), .load n (.t 14), none, [14]⟩,
 ⟨(some 16), .callv (.t 11) [(.t 15)], none, [11, 15]⟩])
 (.cond (.t 16) (.seq (.reg [⟨(some 17), .mv (.t 5), none, [5]⟩,
 ⟨(some 4), .asg (.t 17), none, [17]⟩])
 .ret)
 .skip))))
 (.reg [⟨(some 18), .bin .add (.t 8) (.c (.i .i64 1)), none, [8]⟩,
 ⟨(some 8), .mv (.t 18), none, [18]⟩])))))))
 (.seq (.reg [⟨(some 4), .asg (.c (.i .i64 (-1))), none, []⟩])
 .ret))), [.t 4]⟩
theorem ixf_term1 {P : Program} {f : Nat} (hk : okFn P f (ixfText 3 (some 3)) = true) {l : List TermD} {g : Nat} {k : Nat} {h : Heap} {p : TermD → Bool} (hl : l.length ≤ 9223372036854775807)
 (hg : ∀ e ∈ l, ∀ K : V → Heap → Prop, K (.b (p e)) h → ACall P g (.agg (termR e) :: [.p (.g k) 0]) h K) {K : V → Heap → Prop} (hK : K (.i .i64 (ixRes p l)) h) : ACall P f [.sl none 3 (l.map termR), .fn g [] [.p (.g k) 0]] h K := by
 have hlm : (l.map termR).length = l.length := List.length_map _
 refine fn_sp hk rfl ?_
 ((conv => whnf); repeat ((first | refine SIf.ff rfl ?_ | refine SIf.tt rfl ?_ | refine SOpt.of rfl ?_ | refine SChk.mk rfl ?_ | refine SSame.mk rfl ?_ | refine SEx.of rfl ?_) <;> (conv => whnf)))
 refine SLoop.by (fun q fr st => ∃ i : Nat, i ≤ l.length ∧ q = l.length - i ∧ (∀ (j : Nat) (e : TermD), j < i → l[j]? = some e → p e = false) ∧ Fr.le [(8, .i .i64 i), (7, .i .i64 (l.map termR).length), (1, .fn g [] [.p (.g k) 0]), (0, .sl none 3 (l.map termR))] fr ∧ st = gst h)
  l.length ⟨0, Nat.zero_le _, rfl, fun j e hj => absurd hj (Nat.not_lt_zero _), fle, rfl⟩ ?_
 rintro q fr st ⟨i, hi, rfl, hok, hle, rfl⟩
 refine ⟨_, hle, fun R hR => ?_⟩
 ((conv => whnf); repeat ((first | refine SIf.ff rfl ?_ | refine SIf.tt rfl ?_ | refine SOpt.of rfl ?_ | refine SChk.mk rfl ?_ | refine SSame.mk rfl ?_ | refine SEx.of rfl ?_) <;> (conv => whnf)))
 refine SIf.ds (fun hlt => ?_) (fun hge => ?_)
 · have hi' : i < l.length := by omega
   have he := List.getElem?_eq_getElem hi'
   have hm := List.getElem_mem hi'
   generalize l[i] = e at he hm
   ((conv => whnf); repeat ((first | refine SChk.ix (by omega) (by omega) ?_ | refine SIf.ff rfl ?_ | refine SIf.tt rfl ?_ | refine SOpt.of rfl ?_ | refine SChk.mk rfl ?_ | refine SSame.mk rfl ?_ | refine SEx.of (map_get' (by simp) he) ?_ | refine SEx.of rfl ?_) <;> (conv => whnf)))
   refine SCall.mk (hg e hm _ ?_)
   ((conv => whnf); repeat ((first | refine SIf.ff rfl ?_ | refine SIf.tt rfl ?_ | refine SOpt.of rfl ?_ | refine SChk.mk rfl ?_ | refine SSame.mk rfl ?_ | refine SEx.of rfl ?_) <;> (conv => whnf)))
   refine SIf.mk (fun hp => ?_) (fun hp => ?_)
   · ((conv => whnf); repeat ((first | refine SIf.ff rfl ?_ | refine SIf.tt rfl ?_ | refine SOpt.of rfl ?_ | refine SChk.mk rfl ?_ | refine SSame.mk rfl ?_ | refine SEx.of rfl ?_) <;> (conv => whnf)))
     rw [findIdx_some he hp hok] at hK
     exact hK
   · ((conv => whnf); repeat ((first | refine SWrap.w64 (by omega) (by omega) ?_ | refine SIf.ff rfl ?_ | refine SIf.tt rfl ?_ | refine SOpt.of rfl ?_ | refine SChk.mk rfl ?_ | refine SSame.mk rfl ?_ | refine SEx.of rfl ?_) <;> (conv => whnf)))
     refine hR (l.length - (i + 1)) _ _ (by omega) ⟨i + 1, by omega, rfl, fun j x hj hx => ?_, fle, rfl⟩
     by_cases hji : j < i
     · exact hok j x hji hx
     · obtain rfl : j = i := by omega
       rw [he] at hx; cases hx; exact hp
 · ((conv => whnf); repeat ((first | refine SIf.ff rfl ?_ | refine SIf.tt rfl ?_ | refine SOpt.of rfl ?_ | refine SChk.mk rfl ?_ | refine SSame.mk rfl ?_ | refine SEx.of rfl ?_) <;> (conv => whnf)))
   rw [findIdx_none fun j x hx => hok j x (by have := (List.getElem?_eq_some_iff.1 hx).1; omega) hx] at hK
   exact hK
theorem ixf_tol1 {P : Program} {f : Nat} (hk : okFn P f (ixfText 3 (some 3)) = true) {l : List TolD} {g : Nat} {k : Nat} {h : Heap} {p : TolD → Bool} (hl : l.length ≤ 9223372036854775807)
 (hg : ∀ e ∈ l, ∀ K : V → Heap → Prop, K (.b (p e)) h → ACall P g (.agg (tolR e) :: [.p (.g k) 0]) h K) {K : V → Heap → Prop} (hK : K (.i .i64 (ixRes p l)) h) : ACall P f [.sl none 3 (l.map tolR), .fn g [] [.p (.g k) 0]] h K := by
 have hlm : (l.map tolR).length = l.length := List.length_map _
 refine fn_sp hk rfl ?_
 ((conv => whnf); repeat ((first | refine SIf.ff rfl ?_ | refine SIf.tt rfl ?_ | refine SOpt.of rfl ?_ | refine SChk.mk rfl ?_ | refine SSame.mk rfl ?_ | refine SEx.of rfl ?_) <;> (conv => whnf)))
 refine SLoop.by (fun q fr st => ∃ i : Nat, i ≤ l.length ∧ q = l.length - i ∧ (∀ (j : Nat) (e : TolD), j < i → l[j]? = some e → p e = false) ∧ Fr.le [(8, .i .i64 i), (7, .i .i64 (l.map tolR).length), (1, .fn g [] [.p (.g k) 0]), (0, .sl none 3 (l.map tolR))] fr ∧ st = gst h)
  l.length ⟨0, Nat.zero_le _, rfl, fun j e hj => absurd hj (Nat.not_lt_zero _), fle, rfl⟩ ?_
 rintro q fr st ⟨i, hi, rfl, hok, hle, rfl⟩
 refine ⟨_, hle, fun R hR => ?_⟩
 ((conv => whnf); repeat ((first | refine SIf.ff rfl ?_ | refine SIf.tt rfl ?_ | refine SOpt.of rfl ?_ | refine SChk.mk rfl ?_ | refine SSame.mk rfl ?_ | refine SEx.of rfl ?_) <;> (conv => whnf)))
 refine SIf.ds (fun hlt => ?_) (fun hge => ?_)
 · have hi' : i < l.length := by omega
   have he := List.getElem?_eq_getElem hi'
   have hm := List.getElem_mem hi'
   generalize l[i] = e at he hm
   ((conv => whnf); repeat ((first | refine SChk.ix (by omega) (by omega) ?_ | refine SIf.ff rfl ?_ | refine SIf.tt rfl ?_ | refine SOpt.of rfl ?_ | refine SChk.mk rfl ?_ | refine SSame.mk rfl ?_ | refine SEx.of (map_get' (by simp) he) ?_ | refine SEx.of rfl ?_) <;> (conv => whnf)))
   refine SCall.mk (hg e hm _ ?_)
   ((conv => whnf); repeat ((first | refine SIf.ff rfl ?_ | refine SIf.tt rfl ?_ | refine SOpt.of rfl ?_ | refine SChk.mk rfl ?_ | refine SSame.mk rfl ?_ | refine SEx.of rfl ?_) <;> (conv => whnf)))
   refine SIf.mk (fun hp => ?_) (fun hp => ?_)
   · ((conv => whnf); repeat ((first | refine SIf.ff rfl ?_ | refine SIf.tt rfl ?_ | refine SOpt.of rfl ?_ | refine SChk.mk rfl ?_ | refine SSame.mk rfl ?_ | refine SEx.of rfl ?_) <;> (conv => whnf)))
     rw [findIdx_some he hp hok] at hK
     exact hK
   · ((conv => whnf); repeat ((first | refine SWrap.w64 (by omega) (by omega) ?_ | refine SIf.ff rfl ?_ | refine SIf.tt rfl ?_ | refine SOpt.of rfl ?_ | refine SChk.mk rfl ?_ | refine SSame.mk rfl ?_ | refine SEx.of rfl ?_) <;> (conv => whnf)))
     refine hR (l.length - (i + 1)) _ _ (by omega) ⟨i + 1, by omega, rfl, fun j x hj hx => ?_, fle, rfl⟩
     by_cases hji : j < i
     · exact hok j x hji hx
     · obtain rfl : j = i := by omega
       rw [he] at hx; cases hx; exact hp
 · ((conv => whnf); repeat ((first | refine SIf.ff rfl ?_ | refine SIf.tt rfl ?_ | refine SOpt.of rfl ?_ | refine SChk.mk rfl ?_ | refine SSame.mk rfl ?_ | refine SEx.of rfl ?_) <;> (conv => whnf)))
   rw [findIdx_none fun j x hx => hok j x (by have := (List.getElem?_eq_some_iff.1 hx).1; omega) hx] at hK
   exact hK
theorem ixf_int1 {P : Program} {f : Nat} (hk : okFn P f (ixfText 1 none) = true) {l : List Int} {g : Nat} {k : Nat} {h : Heap} {p : Int → Bool} (hl : l.length ≤ 9223372036854775807)
 (hg : ∀ e ∈ l, ∀ K : V → Heap → Prop, K (.b (p e)) h → ACall P g (.i .i64 e :: [.p (.g k) 0]) h K) {K : V → Heap → Prop} (hK : K (.i .i64 (ixRes p l)) h) : ACall P f [.sl none 1 (l.map intR), .fn g [] [.p (.g k) 0]] h K := by
 have hlm : (l.map intR).length = l.length := List.length_map _
 refine fn_sp hk rfl ?_
 ((conv => whnf); repeat ((first | refine SIf.ff rfl ?_ | refine SIf.tt rfl ?_ | refine SOpt.of rfl ?_ | refine SChk.mk rfl ?_ | refine SSame.mk rfl ?_ | refine SEx.of rfl ?_) <;> (conv => whnf)))
 refine SLoop.by (fun q fr st => ∃ i : Nat, i ≤ l.length ∧ q = l.length - i ∧ (∀ (j : Nat) (e : Int), j < i → l[j]? = some e → p e = false) ∧ Fr.le [(8, .i .i64 i), (7, .i .i64 (l.map intR).length), (1, .fn g [] [.p (.g k) 0]), (0, .sl none 1 (l.map intR))] fr ∧ st = gst h)
  l.length ⟨0, Nat.zero_le _, rfl, fun j e hj => absurd hj (Nat.not_lt_zero _), fle, rfl⟩ ?_
 rintro q fr st ⟨i, hi, rfl, hok, hle, rfl⟩
 refine ⟨_, hle, fun R hR => ?_⟩
 ((conv => whnf); repeat ((first | refine SIf.ff rfl ?_ | refine SIf.tt rfl ?_ | refine SOpt.of rfl ?_ | refine SChk.mk rfl ?_ | refine SSame.mk rfl ?_ | refine SEx.of rfl ?_) <;> (conv => whnf)))
 refine SIf.ds (fun hlt => ?_) (fun hge => ?_)
 · have hi' : i < l.length := by omega
   have he := List.getElem?_eq_getElem hi'
   have hm := List.getElem_mem hi'
   generalize l[i] = e at he hm
   ((conv => whnf); repeat ((first | refine SChk.ix (by omega) (by omega) ?_ | refine SIf.ff rfl ?_ | refine SIf.tt rfl ?_ | refine SOpt.of rfl ?_ | refine SChk.mk rfl ?_ | refine SSame.mk rfl ?_ | refine SEx.of (map_get' (by simp) he) ?_ | refine SEx.of rfl ?_) <;> (conv => whnf)))
   refine SCall.mk (hg e hm _ ?_)
   ((conv => whnf); repeat ((first | refine SIf.ff rfl ?_ | refine SIf.tt rfl ?_ | refine SOpt.of rfl ?_ | refine SChk.mk rfl ?_ | refine SSame.mk rfl ?_ | refine SEx.of rfl ?_) <;> (conv => whnf)))
   refine SIf.mk (fun hp => ?_) (fun hp => ?_)
   · ((conv => whnf); repeat ((first | refine SIf.ff rfl ?_ | refine SIf.tt rfl ?_ | refine SOpt.of rfl ?_ | refine SChk.mk rfl ?_ | refine SSame.mk rfl ?_ | refine SEx.of rfl ?_) <;> (conv => whnf)))
     rw [findIdx_some he hp hok] at hK
     exact hK
   · ((conv => whnf); repeat ((first | refine SWrap.w64 (by omega) (by omega) ?_ | refine SIf.ff rfl ?_ | refine SIf.tt rfl ?_ | refine SOpt.of rfl ?_ | refine SChk.mk rfl ?_ | refine SSame.mk rfl ?_ | refine SEx.of rfl ?_) <;> (conv => whnf)))
     refine hR (l.length - (i + 1)) _ _ (by omega) ⟨i + 1, by omega, rfl, fun j x hj hx => ?_, fle, rfl⟩
     by_cases hji : j < i
     · exact hok j x hji hx
     · obtain rfl : j = i := by omega
       rw [he] at hx; cases hx; exact hp
 · ((conv => whnf); repeat ((first | refine SIf.ff rfl ?_ | refine SIf.tt rfl ?_ | refine SOpt.of rfl ?_ | refine SChk.mk rfl ?_ | refine SSame.mk rfl ?_ | refine SEx.of rfl ?_) <;> (conv => whnf)))
   rw [findIdx_none fun j x hx => hok j x (by have := (List.getElem?_eq_some_iff.1 hx).1; omega) hx] at hK
   exact hK
end Go.Eng
/-
Labels, taints, amounts: what the program's functions answer.
-/
namespace Go.Eng
open Go
def getD (l : List PairD) (key : Str) : Str × Bool :=
 match l.find? (fun p => p.key == key) with
 | some p => (p.val, true)
 | none => ([], false)
def bearsD (t : TolD) (x : PairD) : Bool := (t.key == [] || t.key == x.key) && (t.any || t.val == x.val)
def inD (n : Int) : Bool := decide (0 ≤ n) && decide (n ≤ 4611686018427387904)
def addOk (a b : Int) : Bool := inD a && inD b && decide (a ≤ 4611686018427387904 - b)
def addD (x y : ResD) : Option ResD := if addOk x.a y.a && (addOk x.b y.b && addOk x.c y.c) then some ⟨x.a + y.a, x.b + y.b, x.c + y.c⟩ else none
def resV (r : ResD) : V := .agg (resR r)
def resO (r : Option ResD) : V :=
 match r with
 | some r => .tup [resV r, .b true]
 | none => .tup [resV ⟨0, 0, 0⟩, .b false]
def in64 (n : Int) : Prop := -9223372036854775808 ≤ n ∧ n ≤ 9223372036854775807
def ResD.ok (r : ResD) : Prop := in64 r.a ∧ in64 r.b ∧ in64 r.c
theorem inD_f {n : Int} : ((!inD n) = false) = (0 ≤ n ∧ n ≤ 4611686018427387904) := by simp [inD]
theorem inD_t {n : Int} : ((!inD n) = true) = ¬ (0 ≤ n ∧ n ≤ 4611686018427387904) := by simp [inD]; omega
def AddOk (a b : Int) : Prop := 0 ≤ a ∧ 0 ≤ b ∧ a + b ≤ 4611686018427387904
theorem addOk_iff {a b : Int} : addOk a b = true ↔ AddOk a b := by simp [addOk, inD, AddOk]; omega
theorem addD_t {x y : ResD} (h : (0 ≤ x.a ∧ 0 ≤ y.a ∧ x.a + y.a ≤ 4611686018427387904) ∧ (0 ≤ x.b ∧ 0 ≤ y.b ∧ x.b + y.b ≤ 4611686018427387904) ∧ 0 ≤ x.c ∧ 0 ≤ y.c ∧ x.c + y.c ≤ 4611686018427387904) : addD x y = some ⟨x.a + y.a, x.b + y.b, x.c + y.c⟩ := by
 have : (addOk x.a y.a && (addOk x.b y.b && addOk x.c y.c)) = true := by
  simp only [Bool.and_eq_true, addOk_iff]
  exact h
 rw [addD, if_pos this]
theorem addD_f {x y : ResD} (h : ¬ ((0 ≤ x.a ∧ 0 ≤ y.a ∧ x.a + y.a ≤ 4611686018427387904) ∧ (0 ≤ x.b ∧ 0 ≤ y.b ∧ x.b + y.b ≤ 4611686018427387904) ∧ 0 ≤ x.c ∧ 0 ≤ y.c ∧ x.c + y.c ≤ 4611686018427387904)) : addD x y = none := by
 have : ¬ (addOk x.a y.a && (addOk x.b y.b && addOk x.c y.c)) = true := by
  simp only [Bool.and_eq_true, addOk_iff]
  exact h
 rw [addD, if_neg this]
theorem addD_ok {x y t : ResD} (h : addD x y = some t) : t.ok := by
 unfold addD at h
 split at h
 · rename_i hc
   simp only [Bool.and_eq_true, addOk_iff, AddOk] at hc
   cases h
   simp only [ResD.ok, in64]
   omega
 · cases h
instance (n : Int) : Decidable (in64 n) := inferInstanceAs (Decidable (_ ∧ _))
instance (r : ResD) : Decidable r.ok := inferInstanceAs (Decidable (_ ∧ _ ∧ _))
section
variable {P : Program} (hG : FnsOk P AF.fns.get)
include hG
theorem get_ok (l : List PairD) (key : Str) (hl : l.length ≤ 9223372036854775807) : Pure P 218 [.sl none 2 (l.map pairR), .s key] (· = .tup [.s (getD l key).1, .b (getD l key).2]) := by
 have hlm : (l.map pairR).length = l.length := List.length_map _
 refine pure_fn (hG _ AF.f218 rfl) rfl ?_
 ((conv => whnf); repeat ((first | refine zz ?_) <;> (conv => whnf)))
 refine SLoopZ.by (fun q fr st => ∃ i : Nat, i ≤ l.length ∧ q = l.length - i ∧ NoneYet (fun e => e.key == key) l i ∧ fr = [(10, .i .i64 i), (9, .i .i64 (l.map pairR).length), (8, .sl none 2 (l.map pairR)), (1, .s key)] ∧ st = gst noG)
  l.length ⟨_, _, ?_, 0, Nat.zero_le _, rfl, NoneYet.zero, rfl, rfl⟩ ?_
 · exact tL0
 rintro q fr st ⟨i, hi, rfl, hok, rfl, rfl⟩ R hR
 (conv => whnf)
 refine SIf.ds (fun hlt => ?_) (fun hge => ?_)
 · have hi' : i < l.length := by omega
   have he := List.getElem?_eq_getElem hi'
   generalize l[i] = e at he
   ((conv => whnf); repeat ((first | refine SEx.of (map_get' (by simp) he) ?_ | refine zz ?_) <;> (conv => whnf)))
   refine SIf.mk (fun hp => ?_) (fun hp => ?_)
   · ((conv => whnf); repeat ((first | refine zz ?_) <;> (conv => whnf)))
     refine pure_free rfl ?_
     simp only [getD, find_some he hp hok]
   · ((conv => whnf); repeat ((first | refine zz ?_) <;> (conv => whnf)))
     refine hR (l.length - (i + 1)) _ _ (by omega) ⟨_, _, ?_, i + 1, by omega, rfl, hok.succ he hp, rfl, rfl⟩
     exact tL0
 · ((conv => whnf); repeat ((first | refine zz ?_) <;> (conv => whnf)))
   refine pure_free rfl ?_
   simp only [getD, find_none (hok.all (by omega))]
theorem in_ok (n : Int) : Pure P 285 [.i .i64 n] (· = .b (inD n)) := by
 refine pure_fn (hG _ AF.f285 rfl) rfl ?_
 ((conv => whnf); repeat ((first | refine zz ?_) <;> (conv => whnf)))
 refine SIf.ds (fun h1 => ?_) (fun h1 => ?_)
 · ((conv => whnf); repeat ((first | refine zz ?_) <;> (conv => whnf)))
   refine pure_free rfl ?_
   simp only [inD]
   rw [decide_eq_true (by omega : 0 ≤ n)]
   rfl
 · ((conv => whnf); repeat ((first | refine zz ?_) <;> (conv => whnf)))
   refine pure_free rfl ?_
   simp only [inD]
   rw [decide_eq_false (by omega : ¬ 0 ≤ n)]
   rfl
theorem bears_ok (t : TolD) (x : PairD) : Pure P 305 [.agg (tolR t), .agg (pairR x)] (· = .b (bearsD t x)) := by
 refine pure_fn (hG _ AF.f305 rfl) rfl ?_
 ((conv => whnf); repeat ((first | refine zz ?_) <;> (conv => whnf)))
 refine SIf.mk (fun h1 => ?_) (fun h1 => ?_)
 all_goals ((conv => whnf); repeat ((first | refine zz ?_) <;> (conv => whnf)))
 all_goals try (refine SIf.mk (fun h2 => ?_) (fun h2 => ?_))
 all_goals ((conv => whnf); repeat ((first | refine zz ?_) <;> (conv => whnf)))
 all_goals try (refine SIf.mk (fun h3 => ?_) (fun h3 => ?_))
 all_goals ((conv => whnf); repeat ((first | refine zz ?_) <;> (conv => whnf)))
 all_goals (refine pure_free rfl ?_)
 all_goals simp_all [bearsD]
theorem add_ok (x y : ResD) (hx : x.ok) (hy : y.ok) : Pure P 186 [resV x, resV y] (· = resO (addD x y)) := by
 obtain ⟨x1, x2, x3⟩ := hx
 obtain ⟨y1, y2, y3⟩ := hy
 unfold in64 at x1 x2 x3 y1 y2 y3
 refine pure_fn (hG _ AF.f186 rfl) rfl ?_
 ((conv => whnf); repeat' ((first | refine SCall.app (Pure.go (in_ok hG _) rfl) ?_ | refine SWrap.w64 (by simp only [inD_t, inD_f] at *; omega) (by simp only [inD_t, inD_f] at *; omega) ?_ | refine zz ?_ | refine SLoopZ.un rfl ?_ | refine SIf.ds (fun _ => ?_) (fun _ => ?_) | refine SIf.ns (fun _ => ?_) (fun _ => ?_) | refine SIf.mk (fun _ => ?_) (fun _ => ?_) | (intro r hr; cases r)) <;> (conv => whnf)))
 all_goals (refine pure_free rfl ?_)
 all_goals simp only [inD_t, inD_f] at *
 all_goals first | (rw [addD_f (by omega)]; rfl) | (rw [addD_t (by omega)]; rfl)
def sumD : ResD → List ResD → Option ResD
 | s, [] => some s
 | s, r :: q => match addD s r with
   | some t => sumD t q
   | none => none
theorem sum_ok (l : List ResD) (hl : l.length ≤ 9223372036854775807) (hr : ∀ r ∈ l, r.ok) : Pure P 171 [.sl none 3 (l.map resR)] (· = resO (sumD ⟨0, 0, 0⟩ l)) := by
 have hlm : (l.map resR).length = l.length := List.length_map _
 refine pure_fn (hG _ AF.f171 rfl) rfl ?_
 ((conv => whnf); repeat ((first | refine zz ?_) <;> (conv => whnf)))
 refine SLoopZ.by (fun q fr st => ∃ (i : Nat) (s : ResD), i ≤ l.length ∧ q = l.length - i ∧ s.ok ∧ sumD ⟨0, 0, 0⟩ l = sumD s (l.drop i) ∧ fr = [(11, .i .i64 i), (10, .i .i64 (l.map resR).length), (9, .sl none 3 (l.map resR)), (4, .p (.l 1) 0), (2, .p (.l 0) 0)] ∧ st = ⟨noG, ⟨2, [(1, .cs (resR s)), (0, .cs (resR ⟨0, 0, 0⟩))]⟩⟩)
  l.length ⟨_, _, ?_, 0, ⟨0, 0, 0⟩, Nat.zero_le _, rfl, by decide, rfl, rfl, rfl⟩ ?_
 · exact tL [0, 1]
 rintro q fr st ⟨i, s, hi, rfl, hs, heq, rfl, rfl⟩ R hR
 (conv => whnf)
 refine SIf.ds (fun hlt => ?_) (fun hge => ?_)
 · have hi' : i < l.length := by omega
   have he := List.getElem?_eq_getElem hi'
   have hm := List.getElem_mem hi'
   rw [List.drop_eq_getElem_cons hi'] at heq
   generalize l[i] = e at he heq hm
   ((conv => whnf); repeat ((first | refine SEx.of (map_get' (by simp) he) ?_ | refine zz ?_) <;> (conv => whnf)))
   refine SCall.app (Pure.go (add_ok hG s e hs (hr e hm)) rfl) ?_
   cases ha : addD s e with
   | none =>
     ((conv => whnf); repeat ((first | refine zz ?_) <;> (conv => whnf)))
     refine pure_free rfl ?_
     rw [heq, sumD, ha]
     rfl
   | some t =>
     ((conv => whnf); repeat ((first | refine zz ?_) <;> (conv => whnf)))
     refine hR (l.length - (i + 1)) _ _ (by omega) ⟨_, _, ?_, i + 1, t, by omega, rfl, addD_ok ha, by rw [heq, sumD, ha], rfl, rfl⟩
     exact tL [0, 1]
 · ((conv => whnf); repeat ((first | refine zz ?_) <;> (conv => whnf)))
   rw [List.drop_eq_nil_of_le (by omega)] at heq
   refine pure_free rfl ?_
   rw [heq]
   rfl
end
end Go.Eng
/-
Labels, taints: whether terms hold, whether taints are borne.
-/
namespace Go.Eng
open Go
def holdsD (t : TermD) (l : List PairD) : Bool :=
 let v := getD l t.key
 let among := v.2 && t.vals.any fun e => v.1 == e
 if t.kind = 1 then among else if t.kind = 2 then !among else if t.kind = 3 then v.2 else if t.kind = 4 then !v.2 else false
def LenOk {α : Type} (l : List α) : Prop := l.length ≤ 9223372036854775807
def TermD.ok (t : TermD) : Prop := LenOk t.vals
structure TermsOk (l : List TermD) : Prop where
 len : LenOk l
 each : ∀ x ∈ l, x.ok
structure PodD.ok (p : PodD) : Prop where
 ports : LenOk p.ports
 labels : LenOk p.labels
 tols : LenOk p.tols
 sel : TermsOk p.sel
 anti : TermsOk p.anti
 even : TermsOk p.even
section
variable {P : Program} (hG : FnsOk P AF.fns.get)
include hG
theorem ix_string (l : List Str) (x : Str) (hl : l.length ≤ 9223372036854775807) : Pure P 224 [.sl none 1 (l.map strR), .s x] (· = .i .i64 (ixRes (fun e => x == e) l)) := by
 have hlm : (l.map strR).length = l.length := List.length_map _
 refine pure_fn (hG _ AF.f224 rfl) rfl ?_
 ((conv => whnf); repeat ((first | refine zz ?_) <;> (conv => whnf)))
 refine SLoopZ.by (fun q fr st => ∃ i : Nat, i ≤ l.length ∧ q = l.length - i ∧ NoneYet (fun e => x == e) l i ∧ fr = [(8, .i .i64 i), (7, .i .i64 (l.map strR).length), (1, .s x), (0, .sl none 1 (l.map strR))] ∧ st = gst noG)
  l.length ⟨_, _, ?_, 0, Nat.zero_le _, rfl, NoneYet.zero, rfl, rfl⟩ ?_
 · exact tL0
 rintro q fr st ⟨i, hi, rfl, hok, rfl, rfl⟩ R hR
 (conv => whnf)
 refine SIf.ds (fun hlt => ?_) (fun hge => ?_)
 · have hi' : i < l.length := by omega
   have he := List.getElem?_eq_getElem hi'
   generalize l[i] = e at he
   ((conv => whnf); repeat ((first | refine SEx.of (map_get' (by simp) he) ?_ | refine zz ?_) <;> (conv => whnf)))
   refine SIf.mk (fun hp => ?_) (fun hp => ?_)
   · ((conv => whnf); repeat ((first | refine zz ?_) <;> (conv => whnf)))
     refine pure_free rfl ?_
     rw [findIdx_some he hp hok]
   · ((conv => whnf); repeat ((first | refine zz ?_) <;> (conv => whnf)))
     refine hR (l.length - (i + 1)) _ _ (by omega) ⟨_, _, ?_, i + 1, by omega, rfl, hok.succ he hp, rfl, rfl⟩
     exact tL0
 · ((conv => whnf); repeat ((first | refine zz ?_) <;> (conv => whnf)))
   refine pure_free rfl ?_
   rw [findIdx_none fun j x hx => hok j x (by have := (List.getElem?_eq_some_iff.1 hx).1; omega) hx]
theorem ct_string (l : List Str) (x : Str) (hl : l.length ≤ 9223372036854775807) : Pure P 119 [.sl none 1 (l.map strR), .s x] (· = .b (l.any fun e => x == e)) := by
 refine pure_fn (hG _ AF.f119 rfl) rfl ?_
 ((conv => whnf); repeat ((first | refine SCall.app (Pure.go (ix_string hG l x hl) rfl) ?_ | refine zz ?_) <;> (conv => whnf)))
 refine pure_free rfl ?_
 exact congrArg V.b ixRes_any
theorem ctf_term1 {l : List TermD} {g : Nat} {k : Nat} {h : Heap} {p : TermD → Bool} (hl : l.length ≤ 9223372036854775807)
 (hg : ∀ e ∈ l, ∀ K : V → Heap → Prop, K (.b (p e)) h → ACall P g (.agg (termR e) :: [.p (.g k) 0]) h K) {K : V → Heap → Prop} (hK : K (.b (l.any p)) h) : ACall P 300 [.sl none 3 (l.map termR), .fn g [] [.p (.g k) 0]] h K := by
 refine fn_sp (hG _ AF.f300 rfl) rfl ?_
 ((conv => whnf); repeat ((first | refine SIf.ff rfl ?_ | refine SIf.tt rfl ?_ | refine SOpt.of rfl ?_ | refine SChk.mk rfl ?_ | refine SSame.mk rfl ?_ | refine SEx.of rfl ?_) <;> (conv => whnf)))
 refine SCall.mk (ixf_term1 (k := k) (show okFn P 357 (ixfText 3 (some 3)) = true from hG _ AF.f357 rfl) hl hg ?_)
 ((conv => whnf); repeat ((first | refine SIf.ff rfl ?_ | refine SIf.tt rfl ?_ | refine SOpt.of rfl ?_ | refine SChk.mk rfl ?_ | refine SSame.mk rfl ?_ | refine SEx.of rfl ?_) <;> (conv => whnf)))
 rw [← ixRes_any] at hK
 exact hK
theorem ctf_tol1 {l : List TolD} {g : Nat} {k : Nat} {h : Heap} {p : TolD → Bool} (hl : l.length ≤ 9223372036854775807)
 (hg : ∀ e ∈ l, ∀ K : V → Heap → Prop, K (.b (p e)) h → ACall P g (.agg (tolR e) :: [.p (.g k) 0]) h K) {K : V → Heap → Prop} (hK : K (.b (l.any p)) h) : ACall P 303 [.sl none 3 (l.map tolR), .fn g [] [.p (.g k) 0]] h K := by
 refine fn_sp (hG _ AF.f303 rfl) rfl ?_
 ((conv => whnf); repeat ((first | refine SIf.ff rfl ?_ | refine SIf.tt rfl ?_ | refine SOpt.of rfl ?_ | refine SChk.mk rfl ?_ | refine SSame.mk rfl ?_ | refine SEx.of rfl ?_) <;> (conv => whnf)))
 refine SCall.mk (ixf_tol1 (k := k) (show okFn P 358 (ixfText 3 (some 3)) = true from hG _ AF.f358 rfl) hl hg ?_)
 ((conv => whnf); repeat ((first | refine SIf.ff rfl ?_ | refine SIf.tt rfl ?_ | refine SOpt.of rfl ?_ | refine SChk.mk rfl ?_ | refine SSame.mk rfl ?_ | refine SEx.of rfl ?_) <;> (conv => whnf)))
 rw [← ixRes_any] at hK
 exact hK
theorem holds_ok (t : TermD) (l : List PairD) (ht : t.ok) (hl : LenOk l) : Pure P 302 [.agg (termR t), .sl none 2 (l.map pairR)] (· = .b (holdsD t l)) := by
 refine pure_fn (hG _ AF.f302 rfl) rfl ?_
 obtain ⟨v, hv⟩ : ∃ v, v = getD l t.key := ⟨_, rfl⟩
 obtain ⟨v1, v2⟩ := v
 have hgo := get_ok hG l t.key hl
 rw [← hv] at hgo
 simp only [holdsD, ← hv]
 cases v2
 all_goals ((conv => whnf); repeat' ((first | refine SCall.app (Pure.go hgo rfl) ?_ | refine SCall.app (Pure.go (ct_string hG t.vals _ ht) rfl) ?_ | refine zz ?_ | refine SIf.ds (fun _ => ?_) (fun _ => ?_) | refine SIf.ns (fun _ => ?_) (fun _ => ?_) | refine SIf.mk (fun _ => ?_) (fun _ => ?_) | (intro r hr; cases r)) <;> (conv => whnf)))
 all_goals (refine pure_free rfl ?_)
 all_goals simp_all
theorem matchf_ok {t : TermD} {l : List PairD} (ht : t.ok) (hl : LenOk l) {h : Heap} {k : Nat} (hc : h.get k = some (.cs [.sl none 2 (l.map pairR)])) {K : V → Heap → Prop} (hK : K (.b (!holdsD t l)) h) : ACall P 301 [.agg (termR t), .p (.g k) 0] h K := by
 refine fn_sp (hG _ AF.f301 rfl) rfl ?_
 ((conv => whnf); repeat ((first | refine SIf.ff rfl ?_ | refine SIf.tt rfl ?_ | refine SOpt.of rfl ?_ | refine SChk.mk rfl ?_ | refine SSame.mk rfl ?_ | refine SEx.of (hc) ?_ | refine SEx.of rfl ?_) <;> (conv => whnf)))
 refine SCall.mk (Pure.go (holds_ok hG t l ht hl) rfl ?_)
 ((conv => whnf); repeat ((first | refine SIf.ff rfl ?_ | refine SIf.tt rfl ?_ | refine SOpt.of rfl ?_ | refine SChk.mk rfl ?_ | refine SSame.mk rfl ?_ | refine SEx.of rfl ?_) <;> (conv => whnf)))
 exact hK
theorem match_ok (ts : List TermD) (l : List PairD) (ht : ∀ t ∈ ts, t.ok) (hts : LenOk ts) (hl : LenOk l) : Pure P 214 [.sl none 3 (ts.map termR), .sl none 2 (l.map pairR)] (· = .b (ts.all fun t => holdsD t l)) := by
 refine pure_fn (hG _ AF.f214 rfl) rfl ?_
 ((conv => whnf); repeat ((first | refine SCall.app (ctf_term1 hG (p := fun t => !holdsD t l) hts (fun e he K hK => matchf_ok hG (ht e he) hl rfl hK)) ?_ | refine zz ?_) <;> (conv => whnf)))
 refine pure_free rfl ?_
 simp [List.all_eq_not_any_not]
theorem bearsf_ok {t : TolD} {x : PairD} {h : Heap} {k : Nat} (hc : h.get k = some (.cs (pairR x))) {K : V → Heap → Prop} (hK : K (.b (bearsD t x)) h) : ACall P 304 [.agg (tolR t), .p (.g k) 0] h K := by
 refine fn_sp (hG _ AF.f304 rfl) rfl ?_
 ((conv => whnf); repeat ((first | refine SIf.ff rfl ?_ | refine SIf.tt rfl ?_ | refine SOpt.of rfl ?_ | refine SChk.mk rfl ?_ | refine SSame.mk rfl ?_ | refine SEx.of (hc) ?_ | refine SEx.of rfl ?_) <;> (conv => whnf)))
 refine SCall.mk (Pure.go (bears_ok hG t x) rfl ?_)
 ((conv => whnf); repeat ((first | refine SIf.ff rfl ?_ | refine SIf.tt rfl ?_ | refine SOpt.of rfl ?_ | refine SChk.mk rfl ?_ | refine SSame.mk rfl ?_ | refine SEx.of rfl ?_) <;> (conv => whnf)))
 exact hK
def allD (tols : List TolD) (ts : List PairD) : Bool := ts.all fun x => tols.any fun t => bearsD t x
theorem all_ok (tols : List TolD) (ts : List PairD) (ht : LenOk tols) (hl : LenOk ts) : Pure P 215 [.sl none 3 (tols.map tolR), .sl none 2 (ts.map pairR)] (· = .b (allD tols ts)) := by
 have hlm : (ts.map pairR).length = ts.length := List.length_map _
 have hl' : ts.length ≤ 9223372036854775807 := hl
 refine pure_fn (hG _ AF.f215 rfl) rfl ?_
 ((conv => whnf); repeat ((first | refine zz ?_) <;> (conv => whnf)))
 refine SLoopZ.by (fun q fr st => ∃ i : Nat, i ≤ ts.length ∧ q = ts.length - i ∧ NoneYet (fun x => !tols.any fun t => bearsD t x) ts i ∧ fr = [(9, .i .i64 i), (8, .i .i64 (ts.map pairR).length), (7, .sl none 2 (ts.map pairR)), (0, .sl none 3 (tols.map tolR))] ∧ st = gst noG)
  ts.length ⟨_, _, ?_, 0, Nat.zero_le _, rfl, NoneYet.zero, rfl, rfl⟩ ?_
 · exact tL0
 rintro q fr st ⟨i, hi, rfl, hok, rfl, rfl⟩ R hR
 (conv => whnf)
 refine SIf.ds (fun hlt => ?_) (fun hge => ?_)
 · have hi' : i < ts.length := by omega
   have he := List.getElem?_eq_getElem hi'
   generalize ts[i] = e at he
   ((conv => whnf); repeat ((first | refine SCall.app (ctf_tol1 hG (p := fun t => bearsD t e) ht (fun t _ K hK => bearsf_ok hG rfl hK)) ?_ | refine SEx.of (map_get' (by simp) he) ?_ | refine zz ?_) <;> (conv => whnf)))
   refine SIf.mk (fun hp => ?_) (fun hp => ?_)
   · ((conv => whnf); repeat ((first | refine zz ?_) <;> (conv => whnf)))
     refine pure_free rfl ?_
     simp only [allD, List.all_eq_not_any_not]
     rw [any_some he hp]
     rfl
   · ((conv => whnf); repeat ((first | refine zz ?_) <;> (conv => whnf)))
     refine hR (ts.length - (i + 1)) _ _ (by omega) ⟨_, _, ?_, i + 1, by omega, rfl, hok.succ he hp, rfl, rfl⟩
     exact tL0
 · ((conv => whnf); repeat ((first | refine zz ?_) <;> (conv => whnf)))
   refine pure_free rfl ?_
   simp only [allD, List.all_eq_not_any_not]
   rw [any_none (hok.all (by omega))]
   rfl
end
end Go.Eng
/-
States that are as a program can hold them; what is laid together.
-/
namespace Go.Eng
open Go
def accV (b : Bool) (k : Nat) (sz : Nat) (es : List (List V)) : V :=
 match b with
 | true => .sl (some (.l k)) sz es
 | false => .nils
def accS (b : Bool) (n : Nat) (objs : List (Nat × Obj)) : St :=
 match b with
 | true => ⟨noG, ⟨n + 1, (n, .spare) :: objs⟩⟩
 | false => ⟨noG, ⟨n, objs⟩⟩
structure NodeD.ok (n : NodeD) : Prop where
 labels : LenOk n.labels
 taints : LenOk n.taints
structure PodD.fit (p : PodD) : Prop extends toOk : p.ok where
 req : p.req.ok
structure StD.ok (s : StD) : Prop where
 nodes : LenOk s.nodes
 pods : LenOk s.pods
 node : ∀ n ∈ s.nodes, n.ok
 pod : ∀ p ∈ s.pods, p.fit
 some : s.pods.length * 248 ≤ 140737488355328
theorem pure_tup1 {Q : V → Prop} {cs ds : List V} {b : Bool} {h' : Heap} (hc : CeL ren0 ⟨0, 0⟩ noFz cs ds) (hf : ds.all V.flat = true) (hq : Q (.tup [.agg ds, .b b])) : PureAt Q (.tup [.agg cs, .b b]) h' :=
 pure_ce (u := .tup [.agg ds, .b b]) noFz fzOf_no (.inr ⟨_, _, rfl, rfl, .inr (.inl ⟨_, _, rfl, rfl, hc⟩), ce1_free rfl, trivial⟩) (by simp only [V.free, List.all_cons, V.free1, hf]; rfl) hq
theorem pure_agg1 {Q : V → Prop} {cs ds : List V} {h' : Heap} (hc : CeL ren0 ⟨0, 0⟩ noFz cs ds) (hf : ds.all V.flat = true) (hq : Q (.agg ds)) : PureAt Q (.agg cs) h' :=
 pure_ce (u := .agg ds) noFz fzOf_no (.inl (.inr (.inl ⟨_, _, rfl, rfl, hc⟩))) hf hq
end Go.Eng
