/-
Data of the program, and as what it lies in rows.
-/
import Derived.Test.YthhlbhmneabhiaaGreatEngD
set_option linter.unusedVariables false
set_option linter.unusedSimpArgs false
namespace Go.Eng
open Go
abbrev Str := List UInt8
structure PairD where
  key : Str
  val : Str
  deriving DecidableEq
structure TermD where
  key : Str
  kind : Int
  vals : List Str
  deriving DecidableEq
structure TolD where
  key : Str
  val : Str
  any : Bool
  deriving DecidableEq
structure ResD where
  a : Int
  b : Int
  c : Int
  deriving DecidableEq
structure PodD where
  name : Str
  uid : Int
  prio : Int
  req : ResD
  ports : List Int
  labels : List PairD
  sel : List TermD
  tols : List TolD
  topo : Str
  anti : List TermD
  skew : Int
  even : List TermD
  node : Str
  term : Int
  deriving DecidableEq
structure NodeD where
  name : Str
  cap : ResD
  labels : List PairD
  taints : List PairD
  deriving DecidableEq
structure StD where
  nodes : List NodeD
  pods : List PodD
  deriving DecidableEq
def strR (s : Str) : List V := [.s s]
def intR (n : Int) : List V := [.i .i64 n]
def pairR (p : PairD) : List V := [.s p.key, .s p.val]
def termR (t : TermD) : List V := [.s t.key, .i .i64 t.kind, .sl none 1 (t.vals.map strR)]
def tolR (t : TolD) : List V := [.s t.key, .s t.val, .b t.any]
def resR (r : ResD) : List V := [.i .i64 r.a, .i .i64 r.b, .i .i64 r.c]
def podR (p : PodD) : List V := [.s p.name, .i .i64 p.uid, .i .i64 p.prio, .i .i64 p.req.a, .i .i64 p.req.b, .i .i64 p.req.c, .sl none 1 (p.ports.map intR), .sl none 2 (p.labels.map pairR),
  .sl none 3 (p.sel.map termR), .sl none 3 (p.tols.map tolR), .s p.topo, .sl none 3 (p.anti.map termR), .i .i64 p.skew, .sl none 3 (p.even.map termR), .s p.node, .i .i64 p.term]
def nodeR (n : NodeD) : List V := [.s n.name, .i .i64 n.cap.a, .i .i64 n.cap.b, .i .i64 n.cap.c, .sl none 2 (n.labels.map pairR), .sl none 2 (n.taints.map pairR)]
def stV (s : StD) : V := .agg [.sl none 6 (s.nodes.map nodeR), .sl none 16 (s.pods.map podR)]
def strsV (l : List Str) : V := .sl none 1 (l.map strR)

theorem map_get {α β : Type} {f : α → β} {l : List α} {i : Nat} {x : α} (h : l[i]? = some x) : (l.map f)[i]? = some (f x) := by rw [List.getElem?_map, h]; rfl
theorem map_get' {α β : Type} {f : α → β} {l : List α} {i j : Nat} {x : α} (e : j = i) (h : l[i]? = some x) : (l.map f)[j]? = some (f x) := by subst e; exact map_get h
theorem deep_map {α : Type} {R : α → List V} (h : ∀ x, deeps (R x) = some (R x)) : ∀ l : List α, deepElems (l.map R) = some (l.map R)
  | [] => rfl
  | x :: r => by simp only [List.map_cons, deepElems, h x, deep_map h r]
theorem len_get {α : Type} {l : List α} {i : Nat} (h : i < l.length) : ∃ x, l[i]? = some x := ⟨l[i], List.getElem?_eq_getElem h⟩
theorem take_succ' {α : Type} {l : List α} {i : Nat} {x : α} (h : l[i]? = some x) : l.take (i + 1) = l.take i ++ [x] := by rw [List.take_add_one, h]; rfl
/-- None of the first ones is such. -/
def NoneYet {α : Type} (p : α → Bool) (l : List α) (i : Nat) : Prop := ∀ (j : Nat) (e : α), j < i → l[j]? = some e → p e = false
section
variable {α : Type} {p : α → Bool} {l : List α} {i : Nat} {e : α}
theorem NoneYet.zero : NoneYet p l 0 := fun _ _ h => absurd h (Nat.not_lt_zero _)
theorem NoneYet.succ (h : NoneYet p l i) (he : l[i]? = some e) (hp : p e = false) : NoneYet p l (i + 1) := fun j x hj hx => by
  by_cases hji : j < i
  · exact h j x hji hx
  · obtain rfl : j = i := by omega
    rw [he] at hx; cases hx; exact hp
theorem NoneYet.all (h : NoneYet p l i) (hi : l.length ≤ i) : ∀ x ∈ l, p x = false := fun x hx => by
  obtain ⟨j, hj⟩ := List.mem_iff_getElem?.1 hx
  exact h j x (by have := (List.getElem?_eq_some_iff.1 hj).1; omega) hj
theorem find_some (he : l[i]? = some e) (hp : p e = true) (h : NoneYet p l i) : l.find? p = some e := by
  rw [List.find?_eq_some_iff_getElem]
  obtain ⟨h1, rfl⟩ := List.getElem?_eq_some_iff.1 he
  exact ⟨hp, i, h1, rfl, fun j hj => by simpa using h j _ hj (List.getElem?_eq_getElem (by omega))⟩
theorem find_none (h : ∀ x ∈ l, p x = false) : l.find? p = none := by
  rw [List.find?_eq_none]
  intro x hx
  simp [h x hx]
theorem any_some (he : l[i]? = some e) (hp : p e = true) : l.any p = true := List.any_eq_true.2 ⟨e, List.mem_of_getElem? he, hp⟩
theorem any_none (h : ∀ x ∈ l, p x = false) : l.any p = false := by
  rw [List.any_eq_false]
  intro x hx
  simp [h x hx]
end
/-! What a run asks for most, in few words. -/
section
variable {X Y : Prop}
theorem yf {c : Bool} (h : c = false) (y : Y) : SIf c X Y := .ff h y
theorem yt {c : Bool} (h : c = true) (x : X) : SIf c X Y := .tt h x
theorem yo {β : Type} {o : Option β} {n : Prop} {k : β → Prop} {x : β} (h : o = some x) (hk : k x) : SOpt o n k := .of h hk
theorem yn {β : Type} {o : Option β} {n : Prop} {k : β → Prop} (h : o = none) (hn : n) : SOpt o n k := .no h hn
theorem ye {β : Type} {o : Option β} {k : β → Prop} {x : β} (h : o = some x) (hk : k x) : SEx o k := .of h hk
theorem yc {c : Bool} (h : c = true) (x : X) : SChk c X := ⟨h, x⟩
theorem ys {v u : V} (h : v = u) (x : X) : SSame v u X := ⟨h, x⟩
theorem zdt {p : Prop} [Decidable p] (x : X) (h : p := by omega) : SIf (decide p) X Y := .dt h x
theorem zdf {p : Prop} [Decidable p] (y : Y) (h : ¬ p := by omega) : SIf (decide p) X Y := .df h y
theorem znt {p : Prop} [Decidable p] (x : X) (h : ¬ p := by omega) : SIf (!decide p) X Y := .nt h x
theorem znf {p : Prop} [Decidable p] (y : Y) (h : p := by omega) : SIf (!decide p) X Y := .nf h y
theorem zcd {p : Prop} [Decidable p] (k : X) (h : p := by omega) : SChk (decide p) X := .d h k
theorem zc3 {p q r : Prop} [Decidable p] [Decidable q] [Decidable r] (k : X) (h : p := by omega) (h' : q := by omega) (h2 : r := by omega) : SChk (decide p && decide q && decide r) X := .d3 h h' h2 k
theorem zci {i : Int} {n : Nat} (k : X) (h : 0 ≤ i := by omega) (h' : i < n := by omega) : SChk (idxOk i n) X := .ix h h' k
theorem zw {n : Int} {k : Int → Prop} (hk : k n) (h1 : -9223372036854775808 ≤ n := by omega) (h2 : n ≤ 9223372036854775807 := by omega) : SWrap .i64 n k := .w64 h1 h2 hk
end
theorem acc_step {n : Nat} {x : PodD} {es : List PodD} (hn : n = es.length) : List.drop 0 (List.take (0 + n) (es.map podR)) ++ [podR x] = (es ++ [x]).map podR := by
  subst hn
  rw [Nat.zero_add, List.drop_zero, List.take_of_length_le (by rw [List.length_map]; exact Nat.le_refl _), List.map_append]
  rfl
theorem ceLL_acc {ρ : Ren} {b : Lim} {F : Fz} {n : Nat} {x : PodD} {es : List PodD} (hn : n = es.length) : CeLL ρ b F (List.drop 0 (List.take (0 + n) (es.map podR)) ++ [podR x]) ((es ++ [x]).map podR) := by
  rw [acc_step hn]
  exact ceLL_map (fun _ => rfl) _
/-- Numbers that were seen, as a map's entries. -/
def seenR (l : List Int) : List (V × V) := l.map fun n => (V.i .i64 n, V.b true)
theorem ceM_seen {ρ : Ren} {b : Lim} {F : Fz} : ∀ l : List Int, CeM ρ b F (seenR l) (seenR l)
  | [] => trivial
  | _ :: r => ⟨⟨rfl, ce1_free rfl⟩, ceM_seen r⟩
theorem tL0 {fr fr' : Fr} {st : St} (hf : FrC ren0' ⟨0, 0⟩ noFz fr' fr := by repeat (first | exact FrC.nil | refine FrC.cons (by first | exact ce2_free rfl | exact ce2_untok | exact ce2_nil) ?_)) : TelR fr st fr' (gst noG) := tel0 hf
theorem tL (ks : List Nat) {n : Nat} {objs : List (Nat × Obj)} {fr fr' : Fr} {st : St} (hn : ks.length = n := by rfl) (hd : ks.Nodup := by decide) (hl : ObsC ⟨id, fun i => ks.getD i 0⟩ noFz .l (fun i => ks.getD i 0) n ⟨0, n⟩ st.l objs := by ((repeat (first | exact trivial | refine ⟨⟨Nat.le_of_ble_eq_true rfl, rfl, _, rfl, by first | exact trivial | exact ⟨rfl, trivial⟩ | exact ceL_flat rfl | exact ⟨rfl, ceLL_map (fun _ => rfl) _⟩ | exact ⟨rfl, ceL_flat rfl, trivial⟩ | exact ⟨rfl, ceM_seen _⟩ | exact ⟨rfl, ceLL_acc (by assumption)⟩ | exact (by ((repeat (first | exact trivial | refine ⟨by first | exact ce_flat rfl | exact .nil | exact .tok | exact .ren rfl (Nat.le_of_ble_eq_true rfl) | exact .rows (by ((repeat (first | exact .nil | refine .cons (by ((repeat (first | exact .nil | refine .cons (by first | exact .refl _ | exact .nil _) ?_)); first | done | fail)) ?_)); first | done | fail)), ?_⟩)); first | done | fail))⟩, ?_⟩)); first | done | fail)) (hf : FrC ⟨id, fun i => ks.getD i 0⟩ ⟨0, n⟩ noFz fr' fr := by repeat (first | exact FrC.nil | refine FrC.cons (by first | exact ce2_free rfl | exact ce2_p rfl (Nat.le_of_ble_eq_true rfl) | exact ce2_tok rfl (Nat.le_of_ble_eq_true rfl) | exact ce2_untok | exact ce2_nil) ?_)) :
    TelR fr st fr' ⟨noG, ⟨n, objs⟩⟩ := telL ks hn hd hl hf
theorem tG (gs ls : List Nat) {n m : Nat} {gobjs lobjs : List (Nat × Obj)} {fr fr' : Fr} {st : St} (hn : gs.length = n := by rfl) (hm : ls.length = m := by rfl) (hd : gs.Nodup := by decide) (he : ls.Nodup := by decide)
    (hg : ObsC ⟨fun i => gs.getD i 0, fun i => ls.getD i 0⟩ noFz .g (fun i => gs.getD i 0) n ⟨n, 0⟩ st.g gobjs := by ((repeat (first | exact trivial | refine ⟨⟨Nat.le_of_ble_eq_true rfl, rfl, _, rfl, by first | exact trivial | exact ⟨rfl, trivial⟩ | exact ceL_flat rfl | exact ⟨rfl, ceLL_map (fun _ => rfl) _⟩ | exact ⟨rfl, ceL_flat rfl, trivial⟩ | exact ⟨rfl, ceM_seen _⟩ | exact ⟨rfl, ceLL_acc (by assumption)⟩ | exact (by ((repeat (first | exact trivial | refine ⟨by first | exact ce_flat rfl | exact .nil | exact .tok | exact .ren rfl (Nat.le_of_ble_eq_true rfl) | exact .rows (by ((repeat (first | exact .nil | refine .cons (by ((repeat (first | exact .nil | refine .cons (by first | exact .refl _ | exact .nil _) ?_)); first | done | fail)) ?_)); first | done | fail)), ?_⟩)); first | done | fail))⟩, ?_⟩)); first | done | fail)) (hl : ObsC ⟨fun i => gs.getD i 0, fun i => ls.getD i 0⟩ noFz .l (fun i => ls.getD i 0) m ⟨n, m⟩ st.l lobjs := by ((repeat (first | exact trivial | refine ⟨⟨Nat.le_of_ble_eq_true rfl, rfl, _, rfl, by first | exact trivial | exact ⟨rfl, trivial⟩ | exact ceL_flat rfl | exact ⟨rfl, ceLL_map (fun _ => rfl) _⟩ | exact ⟨rfl, ceL_flat rfl, trivial⟩ | exact ⟨rfl, ceM_seen _⟩ | exact ⟨rfl, ceLL_acc (by assumption)⟩ | exact (by ((repeat (first | exact trivial | refine ⟨by first | exact ce_flat rfl | exact .nil | exact .tok | exact .ren rfl (Nat.le_of_ble_eq_true rfl) | exact .rows (by ((repeat (first | exact .nil | refine .cons (by ((repeat (first | exact .nil | refine .cons (by first | exact .refl _ | exact .nil _) ?_)); first | done | fail)) ?_)); first | done | fail)), ?_⟩)); first | done | fail))⟩, ?_⟩)); first | done | fail))
    (hf : FrC ⟨fun i => gs.getD i 0, fun i => ls.getD i 0⟩ ⟨n, m⟩ noFz fr' fr := by ((repeat (first | exact FrC.nil | refine FrC.cons (by first | exact ce2_free rfl | exact ce2_p rfl (Nat.le_of_ble_eq_true rfl) | exact ce2_ms rfl (Nat.le_of_ble_eq_true rfl) | exact ce2_m rfl (Nat.le_of_ble_eq_true rfl) | exact ce2_tok rfl (Nat.le_of_ble_eq_true rfl) | exact ce2_untok | exact ce2_nil | exact .inl (.inl (.rows (by ((repeat (first | exact .nil | refine .cons (by ((repeat (first | exact .nil | refine .cons (by first | exact .refl _ | exact .nil _) ?_)); first | done | fail)) ?_)); first | done | fail)))) | exact .inl (.inr (.inl ⟨_, _, rfl, rfl, (by ((repeat (first | exact trivial | refine ⟨by first | exact ce_flat rfl | exact .nil | exact .tok | exact .ren rfl (Nat.le_of_ble_eq_true rfl) | exact .rows (by ((repeat (first | exact .nil | refine .cons (by ((repeat (first | exact .nil | refine .cons (by first | exact .refl _ | exact .nil _) ?_)); first | done | fail)) ?_)); first | done | fail)), ?_⟩)); first | done | fail))⟩))) ?_)); first | done | fail)) : TelR fr st fr' ⟨⟨n, gobjs⟩, ⟨m, lobjs⟩⟩ := telGL gs ls hn hm hd he hg hl hf
end Go.Eng
/-
Library functions on rows: IndexFunc, ContainsFunc, Index, Contains, Equal, EqualFunc, Clone.
-/
namespace Go.Eng
open Go
def ixRes {α : Type} (p : α → Bool) (l : List α) : Int :=
  match l.findIdx? p with
  | some j => j
  | none => -1
theorem findIdx_some {α : Type} {p : α → Bool} {l : List α} {i : Nat} {e : α} (he : l[i]? = some e) (hp : p e = true) (hb : ∀ (j : Nat) (x : α), j < i → l[j]? = some x → p x = false) : ixRes p l = i := by
  have : l.findIdx? p = some i := by
    rw [List.findIdx?_eq_some_iff_getElem]
    obtain ⟨h, rfl⟩ := List.getElem?_eq_some_iff.1 he
    exact ⟨h, hp, fun j hj => by simpa using hb j _ hj (List.getElem?_eq_getElem (by omega))⟩
  rw [ixRes, this]
theorem findIdx_none {α : Type} {p : α → Bool} {l : List α} (hb : ∀ (j : Nat) (x : α), l[j]? = some x → p x = false) : ixRes p l = -1 := by
  have : l.findIdx? p = none := by
    rw [List.findIdx?_eq_none_iff]
    intro x hx
    obtain ⟨j, hj⟩ := List.mem_iff_getElem?.1 hx
    exact hb j x hj
  rw [ixRes, this]
theorem ixRes_any {α : Type} {p : α → Bool} {l : List α} : decide (ixRes p l ≥ 0) = l.any p := by
  unfold ixRes
  cases h : l.findIdx? p with
  | none =>
    rw [List.findIdx?_eq_none_iff] at h
    have : l.any p = false := by rw [List.any_eq_false]; intro x hx; simp [h x hx]
    rw [this]
    rfl
  | some j =>
    rw [List.findIdx?_eq_some_iff_getElem] at h
    obtain ⟨hj, hp, _⟩ := h
    have : l.any p = true := List.any_eq_true.2 ⟨_, List.getElem_mem hj, hp⟩
    rw [this]
    exact decide_eq_true (Int.natCast_nonneg j)

def ixfText (sz : Nat) (n : Option Nat) : AFn := ⟨2, (.seq (.reg [⟨(some 4), .asg (.c (.i .i64 0)), none, [4]⟩])
 (.seq (.seq (.reg [⟨(some 6), .mv (.t 0), none, []⟩,
 ⟨(some 7), .lenL (.t 6), none, [6]⟩,
 ⟨(some 8), .mv (.c (.i .i64 0)), none, []⟩])
 (.blk 0 (.loop (.seq (.reg [⟨(some 9), .bin .lss (.t 8) (.t 7), none, []⟩])
 (.seq (.cond (.t 9) .skip
 (.exit 0))
 (.seq (.blk 1 (.seq (.reg [⟨(some 10), .mv (.t 8), none, []⟩,
 ⟨(some 5), .asg (.t 10), none, [10]⟩])
 (.seq (.reg [⟨(some 11), .mv (.t 1), none, []⟩,
 ⟨(some 12), .mv (.t 0), none, []⟩,
 ⟨(some 13), .mv (.t 5), none, []⟩,
 ⟨(some 14), .iasl sz (.t 12) (.t 13), none, [12, 13]⟩,
 ⟨(some 15), .load n (.t 14), none, [14]⟩,
 ⟨(some 16), .callv (.t 11) [(.t 15)], none, [11, 15]⟩])
 (.cond (.t 16) (.seq (.reg [⟨(some 17), .mv (.t 5), none, [5]⟩,
 ⟨(some 4), .asg (.t 17), none, [17]⟩])
 .ret)
 .skip))))
 (.reg [⟨(some 18), .bin .add (.t 8) (.c (.i .i64 1)), none, [8]⟩,
 ⟨(some 8), .mv (.t 18), none, [18]⟩])))))))
 (.seq (.reg [⟨(some 4), .asg (.c (.i .i64 (-1))), none, []⟩])
 .ret))), [.t 4]⟩
set_option maxHeartbeats 1000000 in
theorem ixf_term1 {P : Program} {f : Nat} (hk : okFn P f (ixfText 3 (some 3)) = true) {l : List TermD} {g : Nat} {k : Nat} {h : Heap} {p : TermD → Bool} (hl : l.length ≤ 9223372036854775807)
    (hg : ∀ e ∈ l, ∀ K : V → Heap → Prop, K (.b (p e)) h → ACall P g (.agg (termR e) :: [.p (.g k) 0]) h K) {K : V → Heap → Prop} (hK : K (.i .i64 (ixRes p l)) h) : ACall P f [.sl none 3 (l.map termR), .fn g [] [.p (.g k) 0]] h K := by
  have hlm : (l.map termR).length = l.length := List.length_map _
  refine fn_sp hk rfl ?_
  ((conv => whnf); repeat ((first | refine SIf.ff rfl ?_ | refine SIf.tt rfl ?_ | refine SOpt.of rfl ?_ | refine SChk.mk rfl ?_ | refine SSame.mk rfl ?_ | refine SEx.of rfl ?_) <;> (conv => whnf)))
  refine SLoop.by (fun q fr st => ∃ i : Nat, i ≤ l.length ∧ q = l.length - i ∧ (∀ (j : Nat) (e : TermD), j < i → l[j]? = some e → p e = false) ∧ Fr.le [(8, .i .i64 i), (7, .i .i64 (l.map termR).length), (1, .fn g [] [.p (.g k) 0]), (0, .sl none 3 (l.map termR))] fr ∧ st = gst h)
    l.length ⟨0, Nat.zero_le _, rfl, fun j e hj => absurd hj (Nat.not_lt_zero _), (by repeat (first | exact Fr.le_nil | refine Fr.le_cons rfl ?_)), rfl⟩ ?_
  rintro q fr st ⟨i, hi, rfl, hok, hle, rfl⟩
  refine ⟨_, hle, fun R hR => ?_⟩
  ((conv => whnf); repeat ((first | refine SIf.ff rfl ?_ | refine SIf.tt rfl ?_ | refine SOpt.of rfl ?_ | refine SChk.mk rfl ?_ | refine SSame.mk rfl ?_ | refine SEx.of rfl ?_) <;> (conv => whnf)))
  refine SIf.ds (fun hlt => ?_) (fun hge => ?_)
  · have hi' : i < l.length := by omega
    have he := List.getElem?_eq_getElem hi'
    have hm := List.getElem_mem hi'
    generalize l[i] = e at he hm
    ((conv => whnf); repeat ((first | refine SChk.ix (by omega) (by omega) ?_ | refine SIf.ff rfl ?_ | refine SIf.tt rfl ?_ | refine SOpt.of rfl ?_ | refine SChk.mk rfl ?_ | refine SSame.mk rfl ?_ | refine SEx.of (map_get' (by simp) he) ?_ | refine SEx.of rfl ?_) <;> (conv => whnf)))
    refine SCall.mk (hg e hm _ ?_)
    ((conv => whnf); repeat ((first | refine SIf.ff rfl ?_ | refine SIf.tt rfl ?_ | refine SOpt.of rfl ?_ | refine SChk.mk rfl ?_ | refine SSame.mk rfl ?_ | refine SEx.of rfl ?_) <;> (conv => whnf)))
    refine SIf.mk (fun hp => ?_) (fun hp => ?_)
    · ((conv => whnf); repeat ((first | refine SIf.ff rfl ?_ | refine SIf.tt rfl ?_ | refine SOpt.of rfl ?_ | refine SChk.mk rfl ?_ | refine SSame.mk rfl ?_ | refine SEx.of rfl ?_) <;> (conv => whnf)))
      rw [findIdx_some he hp hok] at hK
      exact hK
    · ((conv => whnf); repeat ((first | refine SWrap.w64 (by omega) (by omega) ?_ | refine SIf.ff rfl ?_ | refine SIf.tt rfl ?_ | refine SOpt.of rfl ?_ | refine SChk.mk rfl ?_ | refine SSame.mk rfl ?_ | refine SEx.of rfl ?_) <;> (conv => whnf)))
      refine hR (l.length - (i + 1)) _ _ (by omega) ⟨i + 1, by omega, rfl, fun j x hj hx => ?_, (by repeat (first | exact Fr.le_nil | refine Fr.le_cons rfl ?_)), rfl⟩
      by_cases hji : j < i
      · exact hok j x hji hx
      · obtain rfl : j = i := by omega
        rw [he] at hx; cases hx; exact hp
  · ((conv => whnf); repeat ((first | refine SIf.ff rfl ?_ | refine SIf.tt rfl ?_ | refine SOpt.of rfl ?_ | refine SChk.mk rfl ?_ | refine SSame.mk rfl ?_ | refine SEx.of rfl ?_) <;> (conv => whnf)))
    rw [findIdx_none fun j x hx => hok j x (by have := (List.getElem?_eq_some_iff.1 hx).1; omega) hx] at hK
    exact hK
set_option maxHeartbeats 1000000 in
theorem ixf_tol1 {P : Program} {f : Nat} (hk : okFn P f (ixfText 3 (some 3)) = true) {l : List TolD} {g : Nat} {k : Nat} {h : Heap} {p : TolD → Bool} (hl : l.length ≤ 9223372036854775807)
    (hg : ∀ e ∈ l, ∀ K : V → Heap → Prop, K (.b (p e)) h → ACall P g (.agg (tolR e) :: [.p (.g k) 0]) h K) {K : V → Heap → Prop} (hK : K (.i .i64 (ixRes p l)) h) : ACall P f [.sl none 3 (l.map tolR), .fn g [] [.p (.g k) 0]] h K := by
  have hlm : (l.map tolR).length = l.length := List.length_map _
  refine fn_sp hk rfl ?_
  ((conv => whnf); repeat ((first | refine SIf.ff rfl ?_ | refine SIf.tt rfl ?_ | refine SOpt.of rfl ?_ | refine SChk.mk rfl ?_ | refine SSame.mk rfl ?_ | refine SEx.of rfl ?_) <;> (conv => whnf)))
  refine SLoop.by (fun q fr st => ∃ i : Nat, i ≤ l.length ∧ q = l.length - i ∧ (∀ (j : Nat) (e : TolD), j < i → l[j]? = some e → p e = false) ∧ Fr.le [(8, .i .i64 i), (7, .i .i64 (l.map tolR).length), (1, .fn g [] [.p (.g k) 0]), (0, .sl none 3 (l.map tolR))] fr ∧ st = gst h)
    l.length ⟨0, Nat.zero_le _, rfl, fun j e hj => absurd hj (Nat.not_lt_zero _), (by repeat (first | exact Fr.le_nil | refine Fr.le_cons rfl ?_)), rfl⟩ ?_
  rintro q fr st ⟨i, hi, rfl, hok, hle, rfl⟩
  refine ⟨_, hle, fun R hR => ?_⟩
  ((conv => whnf); repeat ((first | refine SIf.ff rfl ?_ | refine SIf.tt rfl ?_ | refine SOpt.of rfl ?_ | refine SChk.mk rfl ?_ | refine SSame.mk rfl ?_ | refine SEx.of rfl ?_) <;> (conv => whnf)))
  refine SIf.ds (fun hlt => ?_) (fun hge => ?_)
  · have hi' : i < l.length := by omega
    have he := List.getElem?_eq_getElem hi'
    have hm := List.getElem_mem hi'
    generalize l[i] = e at he hm
    ((conv => whnf); repeat ((first | refine SChk.ix (by omega) (by omega) ?_ | refine SIf.ff rfl ?_ | refine SIf.tt rfl ?_ | refine SOpt.of rfl ?_ | refine SChk.mk rfl ?_ | refine SSame.mk rfl ?_ | refine SEx.of (map_get' (by simp) he) ?_ | refine SEx.of rfl ?_) <;> (conv => whnf)))
    refine SCall.mk (hg e hm _ ?_)
    ((conv => whnf); repeat ((first | refine SIf.ff rfl ?_ | refine SIf.tt rfl ?_ | refine SOpt.of rfl ?_ | refine SChk.mk rfl ?_ | refine SSame.mk rfl ?_ | refine SEx.of rfl ?_) <;> (conv => whnf)))
    refine SIf.mk (fun hp => ?_) (fun hp => ?_)
    · ((conv => whnf); repeat ((first | refine SIf.ff rfl ?_ | refine SIf.tt rfl ?_ | refine SOpt.of rfl ?_ | refine SChk.mk rfl ?_ | refine SSame.mk rfl ?_ | refine SEx.of rfl ?_) <;> (conv => whnf)))
      rw [findIdx_some he hp hok] at hK
      exact hK
    · ((conv => whnf); repeat ((first | refine SWrap.w64 (by omega) (by omega) ?_ | refine SIf.ff rfl ?_ | refine SIf.tt rfl ?_ | refine SOpt.of rfl ?_ | refine SChk.mk rfl ?_ | refine SSame.mk rfl ?_ | refine SEx.of rfl ?_) <;> (conv => whnf)))
      refine hR (l.length - (i + 1)) _ _ (by omega) ⟨i + 1, by omega, rfl, fun j x hj hx => ?_, (by repeat (first | exact Fr.le_nil | refine Fr.le_cons rfl ?_)), rfl⟩
      by_cases hji : j < i
      · exact hok j x hji hx
      · obtain rfl : j = i := by omega
        rw [he] at hx; cases hx; exact hp
  · ((conv => whnf); repeat ((first | refine SIf.ff rfl ?_ | refine SIf.tt rfl ?_ | refine SOpt.of rfl ?_ | refine SChk.mk rfl ?_ | refine SSame.mk rfl ?_ | refine SEx.of rfl ?_) <;> (conv => whnf)))
    rw [findIdx_none fun j x hx => hok j x (by have := (List.getElem?_eq_some_iff.1 hx).1; omega) hx] at hK
    exact hK
set_option maxHeartbeats 1000000 in
theorem ixf_int1 {P : Program} {f : Nat} (hk : okFn P f (ixfText 1 none) = true) {l : List Int} {g : Nat} {k : Nat} {h : Heap} {p : Int → Bool} (hl : l.length ≤ 9223372036854775807)
    (hg : ∀ e ∈ l, ∀ K : V → Heap → Prop, K (.b (p e)) h → ACall P g (.i .i64 e :: [.p (.g k) 0]) h K) {K : V → Heap → Prop} (hK : K (.i .i64 (ixRes p l)) h) : ACall P f [.sl none 1 (l.map intR), .fn g [] [.p (.g k) 0]] h K := by
  have hlm : (l.map intR).length = l.length := List.length_map _
  refine fn_sp hk rfl ?_
  ((conv => whnf); repeat ((first | refine SIf.ff rfl ?_ | refine SIf.tt rfl ?_ | refine SOpt.of rfl ?_ | refine SChk.mk rfl ?_ | refine SSame.mk rfl ?_ | refine SEx.of rfl ?_) <;> (conv => whnf)))
  refine SLoop.by (fun q fr st => ∃ i : Nat, i ≤ l.length ∧ q = l.length - i ∧ (∀ (j : Nat) (e : Int), j < i → l[j]? = some e → p e = false) ∧ Fr.le [(8, .i .i64 i), (7, .i .i64 (l.map intR).length), (1, .fn g [] [.p (.g k) 0]), (0, .sl none 1 (l.map intR))] fr ∧ st = gst h)
    l.length ⟨0, Nat.zero_le _, rfl, fun j e hj => absurd hj (Nat.not_lt_zero _), (by repeat (first | exact Fr.le_nil | refine Fr.le_cons rfl ?_)), rfl⟩ ?_
  rintro q fr st ⟨i, hi, rfl, hok, hle, rfl⟩
  refine ⟨_, hle, fun R hR => ?_⟩
  ((conv => whnf); repeat ((first | refine SIf.ff rfl ?_ | refine SIf.tt rfl ?_ | refine SOpt.of rfl ?_ | refine SChk.mk rfl ?_ | refine SSame.mk rfl ?_ | refine SEx.of rfl ?_) <;> (conv => whnf)))
  refine SIf.ds (fun hlt => ?_) (fun hge => ?_)
  · have hi' : i < l.length := by omega
    have he := List.getElem?_eq_getElem hi'
    have hm := List.getElem_mem hi'
    generalize l[i] = e at he hm
    ((conv => whnf); repeat ((first | refine SChk.ix (by omega) (by omega) ?_ | refine SIf.ff rfl ?_ | refine SIf.tt rfl ?_ | refine SOpt.of rfl ?_ | refine SChk.mk rfl ?_ | refine SSame.mk rfl ?_ | refine SEx.of (map_get' (by simp) he) ?_ | refine SEx.of rfl ?_) <;> (conv => whnf)))
    refine SCall.mk (hg e hm _ ?_)
    ((conv => whnf); repeat ((first | refine SIf.ff rfl ?_ | refine SIf.tt rfl ?_ | refine SOpt.of rfl ?_ | refine SChk.mk rfl ?_ | refine SSame.mk rfl ?_ | refine SEx.of rfl ?_) <;> (conv => whnf)))
    refine SIf.mk (fun hp => ?_) (fun hp => ?_)
    · ((conv => whnf); repeat ((first | refine SIf.ff rfl ?_ | refine SIf.tt rfl ?_ | refine SOpt.of rfl ?_ | refine SChk.mk rfl ?_ | refine SSame.mk rfl ?_ | refine SEx.of rfl ?_) <;> (conv => whnf)))
      rw [findIdx_some he hp hok] at hK
      exact hK
    · ((conv => whnf); repeat ((first | refine SWrap.w64 (by omega) (by omega) ?_ | refine SIf.ff rfl ?_ | refine SIf.tt rfl ?_ | refine SOpt.of rfl ?_ | refine SChk.mk rfl ?_ | refine SSame.mk rfl ?_ | refine SEx.of rfl ?_) <;> (conv => whnf)))
      refine hR (l.length - (i + 1)) _ _ (by omega) ⟨i + 1, by omega, rfl, fun j x hj hx => ?_, (by repeat (first | exact Fr.le_nil | refine Fr.le_cons rfl ?_)), rfl⟩
      by_cases hji : j < i
      · exact hok j x hji hx
      · obtain rfl : j = i := by omega
        rw [he] at hx; cases hx; exact hp
  · ((conv => whnf); repeat ((first | refine SIf.ff rfl ?_ | refine SIf.tt rfl ?_ | refine SOpt.of rfl ?_ | refine SChk.mk rfl ?_ | refine SSame.mk rfl ?_ | refine SEx.of rfl ?_) <;> (conv => whnf)))
    rw [findIdx_none fun j x hx => hok j x (by have := (List.getElem?_eq_some_iff.1 hx).1; omega) hx] at hK
    exact hK
end Go.Eng
