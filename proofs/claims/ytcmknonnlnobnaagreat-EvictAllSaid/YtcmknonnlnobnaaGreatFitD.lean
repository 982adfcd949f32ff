/-
Names in order.
-/
import Derived.Test.YtcmknonnlnobnaaGreatEngC
import Derived.Test.YtcmknonnlnobnaaGreatFitA
import Derived.Test.YtcmknonnlnobnaaGreatFitQ
set_option linter.unusedVariables false
set_option linter.unusedSimpArgs false
set_option maxHeartbeats 8000000
set_option maxRecDepth 20000
namespace Go.Eng
open Go
abbrev lessS (a b : Str) : Prop := Op.bytesLess a b = true
theorem less_irr : ∀ a : Str, Op.bytesLess a a = false
 | [] => rfl
 | a :: r => by
   have h : ¬ a < a := UInt8.lt_irrefl a
   simp only [Op.bytesLess, less_irr r, decide_eq_false h, Bool.and_false, Bool.or_false]
theorem less_tri : ∀ {a b : Str}, Op.bytesLess a b = false → a ≠ b → Op.bytesLess b a = true
 | [], [], _, h => absurd rfl h
 | [], _ :: _, h, _ => by cases h
 | _ :: _, [], _, _ => rfl
 | a :: r, b :: q, h, hne => by
   simp only [Op.bytesLess, Bool.or_eq_false_iff, decide_eq_false_iff_not, Bool.and_eq_false_imp, beq_iff_eq] at h
   simp only [Op.bytesLess, Bool.or_eq_true, decide_eq_true_eq, Bool.and_eq_true, beq_iff_eq]
   by_cases hab : a = b
   · subst hab
     exact .inr ⟨rfl, less_tri (h.2 rfl) fun e => hne (by rw [e])⟩
   · refine .inl ?_
     rcases UInt8.lt_or_lt_of_ne hab with hlt | hlt
     · exact absurd hlt h.1
     · exact hlt
theorem less_trans : ∀ {a b c : Str}, lessS a b → lessS b c → lessS a c
 | _, [], _, h, _ => by unfold lessS Op.bytesLess at h; cases h
 | _, _ :: _, [], _, h => by unfold lessS Op.bytesLess at h; cases h
 | [], _ :: _, _ :: _, _, _ => rfl
 | a :: r, b :: q, c :: s, h1, h2 => by
   simp only [lessS, Op.bytesLess, Bool.or_eq_true, decide_eq_true_eq, Bool.and_eq_true, beq_iff_eq] at h1 h2 ⊢
   rcases h1 with h1 | ⟨rfl, h1⟩
   · rcases h2 with h2 | ⟨rfl, h2⟩
     · exact .inl (UInt8.lt_trans h1 h2)
     · exact .inl h1
   · rcases h2 with h2 | ⟨rfl, h2⟩
     · exact .inl h2
     · exact .inr ⟨rfl, less_trans h1 h2⟩
theorem less_asymm {a b : Str} (h : lessS a b) : Op.bytesLess b a = false := by
 cases hc : Op.bytesLess b a with
 | false => rfl
 | true => have := less_trans h hc; rw [lessS, less_irr] at this; cases this
theorem cmpB_of_less : ∀ {a b : Str}, lessS a b → 0 < cmpB b a
 | _, [], h => by unfold lessS Op.bytesLess at h; cases h
 | [], _ :: _, _ => by unfold cmpB; decide
 | a :: r, b :: q, h => by
   simp only [lessS, Op.bytesLess, Bool.or_eq_true, decide_eq_true_eq, Bool.and_eq_true, beq_iff_eq] at h
   unfold cmpB
   by_cases hab : a = b
   · subst hab
     have h1 : Nat.blt a.toNat a.toNat = false := by simp [Nat.blt_eq, ← Bool.not_eq_true]
     rw [h1]
     rcases h with h | ⟨_, h⟩
     · exact absurd h (UInt8.lt_irrefl a)
     · exact cmpB_of_less h
   · have hlt : a < b := by
      rcases h with h | ⟨h, _⟩
      · exact h
      · exact absurd h hab
     have hn : a.toNat < b.toNat := UInt8.lt_iff_toNat_lt.1 hlt
     have h1 : Nat.blt b.toNat a.toNat = false := by rw [Bool.eq_false_iff]; exact fun hc => by have := (Nat.blt_eq ▸ hc : b.toNat < a.toNat); omega
     have h2 : Nat.blt a.toNat b.toNat = true := by rw [Nat.blt_eq]; exact hn
     rw [h1, h2]
     exact Int.zero_lt_one
theorem pair_get {α : Type} {R : α → α → Prop} {l : List α} (h : l.Pairwise R) {i j : Nat} {x y : α} (hij : i < j) (hx : l[i]? = some x) (hy : l[j]? = some y) : R x y := by
 obtain ⟨h1, rfl⟩ := List.getElem?_eq_some_iff.1 hx
 obtain ⟨h2, rfl⟩ := List.getElem?_eq_some_iff.1 hy
 exact List.pairwise_iff_getElem.1 h i j h1 h2 hij
theorem all_step {α : Type} {φ : α → Prop} {l : List α} {i : Nat} {e : α} (h : ∀ x ∈ l.take i, φ x) (he : l[i]? = some e) (hp : φ e) : ∀ x ∈ l.take (i + 1), φ x := by
 rw [take_succ' he]
 intro x hx
 rcases List.mem_append.1 hx with hx | hx
 · exact h x hx
 · rw [List.mem_singleton.1 hx]; exact hp
end Go.Eng
/-
What may be, by the document: terms, tolerations, pods.
-/
namespace Go.Eng
open Go
structure TermsMay (l : List TermD) : Prop where
 len : l.length ≤ 6
 each : ∀ t ∈ l, t.vals.length ≤ 6
structure PodMay (p : PodD) : Prop where
 ports : p.ports.length ≤ 6
 labels : p.labels.length ≤ 6
 sel : TermsMay p.sel
 tols : p.tols.length ≤ 6
 anti : TermsMay p.anti
 even : TermsMay p.even
 req : ResMay p.req
section
variable {P : Program} (hG : FnsOk P AF.fns.get)
include hG
theorem rtols_ok (l : List TolD) (hl : LenOk l) (hs : ∀ x ∈ l, x.sok) : Pure P 67 [.sl none 3 (l.map tolR)] (TellsB (l.length ≤ 6)) := by
 have hlm : (l.map tolR).length = l.length := List.length_map _
 unfold LenOk at hl
 refine pure_fn (hG _ AF.f67 rfl) rfl ?_
 ((conv => whnf); repeat ((first | refine zz ?_) <;> (conv => whnf)))
 refine SLoopZ.by (fun q fr st => ∃ i : Nat, i ≤ l.length ∧ q = l.length - i ∧ fr = [(7, .i .i64 i), (6, .i .i64 (l.map tolR).length), (0, .sl none 3 (l.map tolR))] ∧ st = gst noG)
  l.length ⟨_, _, ?_, 0, Nat.zero_le _, rfl, rfl, rfl⟩ ?_
 · exact tL0
 rintro q fr st ⟨i, hi, rfl, rfl, rfl⟩ R hR
 (conv => whnf)
 refine SIf.ds (fun hlt => ?_) (fun hge => ?_)
 · have hi' : i < l.length := by omega
   have he := gE hi'
   have hm := hs _ (List.getElem_mem hi')
   generalize l[i] = e at he hm
   ((conv => whnf); repeat' ((first | refine cA (Pure.any (rname_ok hG e.key hm.1) rfl) ?_ | refine cA (Pure.any (rname_ok hG e.val hm.2) rfl) ?_ | refine ye (map_get' (by omega) he) ?_ | refine zz ?_ | refine SIf.ds (fun _ => ?_) (fun _ => ?_) | refine SIf.ns (fun _ => ?_) (fun _ => ?_) | refine SIf.mk (fun _ => ?_) (fun _ => ?_) | (intro r hr; cases r)) <;> (conv => whnf)))
   all_goals first
    | exact pure_free rfl ⟨false, rfl, fun h => by cases h⟩
    | (refine hR (l.length - (i + 1)) _ _ (by omega) ⟨_, _, ?_, i + 1, by omega, rfl, rfl, rfl⟩; exact tL0)
 · ((conv => whnf); repeat' ((first | refine zz ?_ | refine SIf.ds (fun _ => ?_) (fun _ => ?_) | refine SIf.ns (fun _ => ?_) (fun _ => ?_) | refine SIf.mk (fun _ => ?_) (fun _ => ?_) | (intro r hr; cases r)) <;> (conv => whnf)))
   all_goals exact pure_free rfl ⟨_, rfl, fun h => by first | (cases h; done) | (simp at h; omega)⟩
theorem rterms_ok (l : List TermD) (hl : LenOk l) (ho : ∀ x ∈ l, x.ok) (hs : ∀ x ∈ l, x.sok) : Pure P 66 [.sl none 3 (l.map termR)] (TellsB (TermsMay l)) := by
 have hlm : (l.map termR).length = l.length := List.length_map _
 unfold LenOk at hl
 refine pure_fn (hG _ AF.f66 rfl) rfl ?_
 ((conv => whnf); repeat ((first | refine zz ?_) <;> (conv => whnf)))
 refine SLoopZ.by (fun q fr st => ∃ i : Nat, i ≤ l.length ∧ q = l.length - i ∧ (∀ x ∈ l.take i, x.vals.length ≤ 6) ∧ fr = [(9, .i .i64 i), (8, .i .i64 (l.map termR).length), (0, .sl none 3 (l.map termR))] ∧ st = gst noG)
  l.length ⟨_, _, ?_, 0, Nat.zero_le _, rfl, (fun x hx => by cases hx), rfl, rfl⟩ ?_
 · exact tL0
 rintro q fr st ⟨i, hi, rfl, hal, rfl, rfl⟩ R hR
 (conv => whnf)
 refine SIf.ds (fun hlt => ?_) (fun hge => ?_)
 · have hi' : i < l.length := by omega
   have he := gE hi'
   have hm := hs _ (List.getElem_mem hi')
   have hv : l[i].vals.length ≤ 9223372036854775807 := ho _ (List.getElem_mem hi')
   generalize l[i] = e at he hm hv
   have hvm : (e.vals.map strR).length = e.vals.length := List.length_map _
   ((conv => whnf); repeat' ((first | refine cA (Pure.any (rname_ok hG e.key hm.1) rfl) ?_ | refine ye (map_get' (by omega) he) ?_ | refine zz ?_ | refine SIf.ds (fun _ => ?_) (fun _ => ?_) | refine SIf.ns (fun _ => ?_) (fun _ => ?_) | refine SIf.mk (fun _ => ?_) (fun _ => ?_) | (intro r hr; cases r)) <;> (conv => whnf)))
   all_goals try exact pure_free rfl ⟨false, rfl, fun h => by cases h⟩
   all_goals
    refine SLoopZ.by (fun q fr st => ∃ j : Nat, j ≤ e.vals.length ∧ q = e.vals.length - j ∧ fr = [(58, .i .i64 j), (57, .i .i64 (e.vals.map strR).length), (4, .p (.l 0) 0), (9, .i .i64 i), (8, .i .i64 (l.map termR).length), (0, .sl none 3 (l.map termR))] ∧ st = ⟨noG, ⟨1, [(0, .cs (termR e))]⟩⟩)
     e.vals.length ⟨_, _, ?_, 0, Nat.zero_le _, rfl, rfl, rfl⟩ ?_
    · exact tL [0]
    rintro q fr st ⟨j, hj, rfl, rfl, rfl⟩ R2 hR2
    (conv => whnf)
    refine SIf.ds (fun hlt2 => ?_) (fun hge2 => ?_)
    · have hj' : j < e.vals.length := by omega
      have hf := gE hj'
      have hfm := hm.2 _ (List.getElem_mem hj')
      generalize e.vals[j] = f at hf hfm
      ((conv => whnf); repeat' ((first | refine cA (Pure.any (rname_ok hG f hfm) rfl) ?_ | refine ye (map_get' (by omega) hf) ?_ | refine zz ?_ | refine SIf.ds (fun _ => ?_) (fun _ => ?_) | refine SIf.ns (fun _ => ?_) (fun _ => ?_) | refine SIf.mk (fun _ => ?_) (fun _ => ?_) | (intro r hr; cases r)) <;> (conv => whnf)))
      all_goals first
       | exact pure_free rfl ⟨false, rfl, fun h => by cases h⟩
       | (refine hR2 (e.vals.length - (j + 1)) _ _ (by omega) ⟨_, _, ?_, j + 1, by omega, rfl, rfl, rfl⟩; exact tL [0])
    · ((conv => whnf); repeat ((first | refine zz ?_) <;> (conv => whnf)))
      refine hR (l.length - (i + 1)) _ _ (by omega) ⟨_, _, ?_, i + 1, by omega, rfl, all_step hal he (by omega), rfl, rfl⟩
      exact tL0
 · ((conv => whnf); repeat' ((first | refine zz ?_ | refine SIf.ds (fun _ => ?_) (fun _ => ?_) | refine SIf.ns (fun _ => ?_) (fun _ => ?_) | refine SIf.mk (fun _ => ?_) (fun _ => ?_) | (intro r hr; cases r)) <;> (conv => whnf)))
   all_goals
     rw [List.take_of_length_le (by omega)] at hal
     exact pure_free rfl ⟨_, rfl, fun h => by first | (cases h; done) | (simp at h; exact ⟨by omega, hal⟩)⟩
theorem rpod_ok (p : PodD) (hp : p.ok) (hs : p.sok) : Pure P 13 [.agg (podR p)] (TellsB (PodMay p)) := by
 have hlm : (p.ports.map intR).length = p.ports.length := List.length_map _
 have hl := hp.ports
 unfold LenOk at hl
 refine pure_fn (hG _ AF.f13 rfl) rfl ?_
 ((conv => whnf); repeat ((first | refine zz ?_) <;> (conv => whnf)))
 refine SLoopZ.by (fun q fr st => ∃ i : Nat, i ≤ p.ports.length ∧ q = p.ports.length - i ∧ fr = [(7, .i .i64 i), (6, .i .i64 (p.ports.map intR).length), (1, .p (.l 0) 0)] ∧ st = ⟨noG, ⟨1, [(0, .cs (podR p))]⟩⟩)
  p.ports.length ⟨_, _, ?_, 0, Nat.zero_le _, rfl, rfl, rfl⟩ ?_
 · exact tL [0]
 rintro q fr st ⟨i, hi, rfl, rfl, rfl⟩ R hR
 (conv => whnf)
 refine SIf.ds (fun hlt => ?_) (fun hge => ?_)
 · have hi' : i < p.ports.length := by omega
   have he := gE hi'
   generalize p.ports[i] = e at he
   rcases Nat.eq_zero_or_pos i with h0 | h0
   · ((conv => whnf); repeat' ((first | refine ye (map_get' (by omega) he) ?_ | refine zz ?_ | refine SIf.ds (fun _ => ?_) (fun _ => ?_) | refine SIf.ns (fun _ => ?_) (fun _ => ?_) | refine SIf.mk (fun _ => ?_) (fun _ => ?_) | (intro r hr; cases r)) <;> (conv => whnf)))
     all_goals first
       | exact pure_free rfl ⟨false, rfl, fun h => by cases h⟩
       | (refine hR (p.ports.length - (i + 1)) _ _ (by omega) ⟨_, _, ?_, i + 1, by omega, rfl, rfl, rfl⟩; exact tL [0])
   · have hi2 : i - 1 < p.ports.length := by omega
     have hf := gE hi2
     generalize p.ports[i - 1] = f at hf
     ((conv => whnf); repeat' ((first | refine ye (map_get' (by omega) he) ?_ | refine ye (map_get' (by omega) hf) ?_ | refine zz ?_ | refine SIf.ds (fun _ => ?_) (fun _ => ?_) | refine SIf.ns (fun _ => ?_) (fun _ => ?_) | refine SIf.mk (fun _ => ?_) (fun _ => ?_) | (intro r hr; cases r)) <;> (conv => whnf)))
     all_goals first
      | exact pure_free rfl ⟨false, rfl, fun h => by cases h⟩
      | (refine hR (p.ports.length - (i + 1)) _ _ (by omega) ⟨_, _, ?_, i + 1, by omega, rfl, rfl, rfl⟩; exact tL [0])
 · ((conv => whnf); repeat' ((first | refine cA (Pure.any (rname_ok hG p.name hs.name) rfl) ?_ | refine cA (Pure.any (rname_ok hG p.topo hs.topo) rfl) ?_ | refine cA (Pure.any (rname_ok hG p.node hs.node) rfl) ?_ | refine cA (Pure.any (rmay_ok hG p.req) rfl) ?_ | refine cA (Pure.any (rpairs_ok hG _ hp.labels hs.labels) rfl) ?_ | refine cA (Pure.any (rterms_ok hG p.sel hp.sel.len hp.sel.each hs.sel) rfl) ?_ | refine cA (Pure.any (rterms_ok hG p.anti hp.anti.len hp.anti.each hs.anti) rfl) ?_ | refine cA (Pure.any (rterms_ok hG p.even hp.even.len hp.even.each hs.even) rfl) ?_ | refine cA (Pure.any (rtols_ok hG p.tols hp.tols hs.tols) rfl) ?_ | refine zz ?_ | refine SIf.ds (fun _ => ?_) (fun _ => ?_) | refine SIf.ns (fun _ => ?_) (fun _ => ?_) | refine SIf.mk (fun _ => ?_) (fun _ => ?_) | (intro r hr; cases r)) <;> (conv => whnf)))
   all_goals first
     | exact pure_free rfl ⟨false, rfl, fun h => by cases h⟩
     | exact pure_free rfl ⟨_, rfl, fun _ => ⟨by omega, (by assumption : true = true → p.labels.length ≤ 6) rfl, (by assumption : true = true → TermsMay p.sel) rfl, (by assumption : true = true → p.tols.length ≤ 6) rfl, (by assumption : true = true → TermsMay p.anti) rfl, (by assumption : true = true → TermsMay p.even) rfl, (by assumption : true = true → ResMay p.req) rfl⟩⟩
end
end Go.Eng
/-
What may be, by the document: that it is told, and that lists that may be are short.
-/
namespace Go.Eng
open Go
section
variable {P : Program} (hG : FnsOk P AF.fns.get)
include hG
theorem rtaints_ok (l : List PairD) (hl : LenOk l) (hs : ∀ x ∈ l, x.sok) : Pure P 114 [.sl none 2 (l.map pairR)] (TellsB (l.length ≤ 6)) := by
 have hlm : (l.map pairR).length = l.length := List.length_map _
 unfold LenOk at hl
 refine pure_fn (hG _ AF.f114 rfl) rfl ?_
 ((conv => whnf); repeat ((first | refine zz ?_) <;> (conv => whnf)))
 refine SLoopZ.by (fun q fr st => ∃ i : Nat, i ≤ l.length ∧ q = l.length - i ∧ fr = [(6, .i .i64 i), (5, .i .i64 (l.map pairR).length), (0, .sl none 2 (l.map pairR))] ∧ st = gst noG)
  l.length ⟨_, _, ?_, 0, Nat.zero_le _, rfl, rfl, rfl⟩ ?_
 · exact tL0
 rintro q fr st ⟨i, hi, rfl, rfl, rfl⟩ R hR
 (conv => whnf)
 refine SIf.ds (fun hlt => ?_) (fun hge => ?_)
 · have hi' : i < l.length := by omega
   have he := gE hi'
   have hm := hs _ (List.getElem_mem hi')
   generalize l[i] = e at he hm
   rcases Nat.eq_zero_or_pos i with h0 | h0
   · ((conv => whnf); repeat' ((first | refine cA (Pure.any (rname_ok hG _ hm.1) rfl) ?_ | refine cA (Pure.any (rname_ok hG _ hm.2) rfl) ?_ | refine ye (map_get' (by simp) he) ?_ | refine zz ?_ | refine SIf.ds (fun _ => ?_) (fun _ => ?_) | refine SIf.ns (fun _ => ?_) (fun _ => ?_) | refine SIf.mk (fun _ => ?_) (fun _ => ?_) | (intro r hr; cases r)) <;> (conv => whnf)))
     all_goals first
       | exact pure_free rfl ⟨false, rfl, fun h => by cases h⟩
       | (refine hR (l.length - (i + 1)) _ _ (by omega) ⟨_, _, ?_, i + 1, by omega, rfl, rfl, rfl⟩; exact tL0)
   · have hi2 : i - 1 < l.length := by omega
     have hf := gE hi2
     generalize l[i - 1] = f at hf
     ((conv => whnf); repeat' ((first | refine cA (Pure.any (rname_ok hG _ hm.1) rfl) ?_ | refine cA (Pure.any (rname_ok hG _ hm.2) rfl) ?_ | refine ye (map_get' (by omega) he) ?_ | refine ye (map_get' (by omega) hf) ?_ | refine zz ?_ | refine SIf.ds (fun _ => ?_) (fun _ => ?_) | refine SIf.ns (fun _ => ?_) (fun _ => ?_) | refine SIf.mk (fun _ => ?_) (fun _ => ?_) | (intro r hr; cases r)) <;> (conv => whnf)))
     all_goals first
      | exact pure_free rfl ⟨false, rfl, fun h => by cases h⟩
      | (refine hR (l.length - (i + 1)) _ _ (by omega) ⟨_, _, ?_, i + 1, by omega, rfl, rfl, rfl⟩; exact tL0)
 · ((conv => whnf); repeat' ((first | refine zz ?_ | refine SIf.ds (fun _ => ?_) (fun _ => ?_) | refine SIf.ns (fun _ => ?_) (fun _ => ?_) | refine SIf.mk (fun _ => ?_) (fun _ => ?_) | (intro r hr; cases r)) <;> (conv => whnf)))
   all_goals exact pure_free rfl ⟨_, rfl, fun h => by simp at h; omega⟩
def noneS : Str := [78, 79, 78, 69]
theorem rnone_ok : Pure P 63 [.s noneS] (· = .b false) := by
 refine pure_fn (hG _ AF.f63 rfl) rfl ?_
 ((conv => whnf); repeat ((first | refine zz ?_ | refine SLoopZ.un rfl ?_) <;> (conv => whnf)))
 exact pure_free rfl rfl
theorem rnode_ok (n : NodeD) (hn : n.ok) (hs : n.sok) : Pure P 39 [.agg (nodeR n)] (TellsB (n.labels.length ≤ 6 ∧ n.taints.length ≤ 6 ∧ n.name ≠ noneS ∧ 1 ≤ n.name.length ∧ ResMay n.cap)) := by
 refine pure_fn (hG _ AF.f39 rfl) rfl ?_
 by_cases hno : n.name = noneS
 · have h0 := rnone_ok hG
   rw [← hno] at h0
   ((conv => whnf); repeat' ((first | refine cA (Pure.go h0 rfl) ?_ | refine zz ?_ | refine SIf.ds (fun _ => ?_) (fun _ => ?_) | refine SIf.ns (fun _ => ?_) (fun _ => ?_) | refine SIf.mk (fun _ => ?_) (fun _ => ?_) | (intro r hr; cases r)) <;> (conv => whnf)))
   all_goals exact pure_free rfl ⟨_, rfl, fun h => by simp_all⟩
 ((conv => whnf); repeat' ((first | refine cA (Pure.any (rname_ok hG _ hs.name) rfl) ?_ | refine cA (Pure.any (rmay_ok hG n.cap) rfl) ?_ | refine cA (Pure.any (rpairs_ok hG _ hn.labels hs.labels) rfl) ?_ | refine cA (Pure.any (rtaints_ok hG _ hn.taints hs.taints) rfl) ?_ | refine zz ?_ | refine SIf.ds (fun _ => ?_) (fun _ => ?_) | refine SIf.ns (fun _ => ?_) (fun _ => ?_) | refine SIf.mk (fun _ => ?_) (fun _ => ?_) | (intro r hr; cases r)) <;> (conv => whnf)))
 all_goals exact pure_free rfl ⟨_, rfl, fun h => by simp_all⟩
end
end Go.Eng
/-
States, by the document: a pod by its name, a node by its name, a state with a pod.
-/
namespace Go.Eng
open Go
def podZ : PodD := ⟨[], 0, 0, ⟨0, 0, 0⟩, [], [], [], [], [], [], 0, [], [], 0⟩
def nodeZ : NodeD := ⟨[], ⟨0, 0, 0⟩, [], []⟩
def podO (o : Option PodD) : V :=
 match o with
 | some p => .tup [.agg (podR p), .b true]
 | none => .tup [.agg (podR podZ), .b false]
def nodeO (o : Option NodeD) : V :=
 match o with
 | some n => .tup [.agg (nodeR n), .b true]
 | none => .tup [.agg (nodeR nodeZ), .b false]
def elseD (p : PodD) (l : List PodD) : List PodD := l.filter fun q => !(q.name == p.name)
structure WithOf (s : StD) (p : PodD) (w : StD) : Prop where
 nodes : w.nodes = s.nodes
 pods : ∀ q ∈ w.pods, q ∈ s.pods ∨ q = p
 len : w.pods.length ≤ s.pods.length + 1
 rest : elseD p w.pods = elseD p s.pods
 one : w.pods.filter (fun q => q.name == p.name) = [p]
structure SoFar (s : StD) (p : PodD) (i : Nat) (d : Bool) (es : List PodD) : Prop where
 len : es.length ≤ i + d.toNat
 sub : ∀ q ∈ es, q ∈ s.pods ∨ q = p
 rest : elseD p es = elseD p (s.pods.take i)
 one : es.filter (fun q => q.name == p.name) = if d then [p] else []
theorem SoFar.p {s : StD} {p : PodD} {i : Nat} {es : List PodD} (h : SoFar s p i false es) : SoFar s p i true (es ++ [p]) :=
 ⟨by have := h.len; simp at this ⊢; omega, fun q hq => by
  rcases List.mem_append.1 hq with hq | hq
  · exact h.sub q hq
  · exact .inr (List.mem_singleton.1 hq), by
  rw [← h.rest]
  simp [elseD], by
  rw [List.filter_append, h.one]
  simp⟩
theorem SoFar.e {s : StD} {p e : PodD} {i : Nat} {d : Bool} {es : List PodD} (h : SoFar s p i d es) (he : s.pods[i]? = some e) (hn : (e.name == p.name) = false) : SoFar s p (i + 1) d (es ++ [e]) :=
 ⟨by have := h.len; simp at this ⊢; omega, fun q hq => by
  rcases List.mem_append.1 hq with hq | hq
  · exact h.sub q hq
  · rw [List.mem_singleton.1 hq]; exact .inl (List.mem_of_getElem? he), by
  have := h.rest
  unfold elseD at this ⊢
  rw [take_succ' he, List.filter_append, List.filter_append, this], by
  rw [List.filter_append, h.one, List.filter_cons_of_neg (by rw [hn]; decide)]
  simp⟩
theorem SoFar.s {s : StD} {p e : PodD} {i : Nat} {d : Bool} {es : List PodD} (h : SoFar s p i d es) (he : s.pods[i]? = some e) (hn : (e.name == p.name) = true) : SoFar s p (i + 1) d es :=
 ⟨by have := h.len; omega, h.sub, by
  have := h.rest
  unfold elseD at this ⊢
  rw [take_succ' he, List.filter_append, this]
  simp only [beq_iff_eq] at hn
  simp [hn], h.one⟩
section
variable {P : Program} (hG : FnsOk P AF.fns.get)
include hG
theorem rgetpod_ok (s : StD) (name : Str) (hl : LenOk s.pods) : Pure P 24 [stV s, .s name] (· = podO (s.pods.find? fun p => p.name == name)) := by
 have hlm : (s.pods.map podR).length = s.pods.length := List.length_map _
 unfold LenOk at hl
 refine pure_fn (hG _ AF.f24 rfl) rfl ?_
 ((conv => whnf); repeat ((first | refine zz ?_) <;> (conv => whnf)))
 refine SLoopZ.by (fun q fr st => ∃ i : Nat, i ≤ s.pods.length ∧ q = s.pods.length - i ∧ NoneYet (fun p => p.name == name) s.pods i ∧
  fr = [(10, .i .i64 i), (9, .i .i64 (s.pods.map podR).length), (4, .p (.l 1) 0), (2, .p (.l 0) 0), (1, .s name)] ∧ st = ⟨noG, ⟨2, [(1, .cs (podR podZ)), (0, .cs [.sl none 6 (s.nodes.map nodeR), .sl none 16 (s.pods.map podR)])]⟩⟩)
  s.pods.length ⟨_, _, ?_, 0, Nat.zero_le _, rfl, NoneYet.zero, rfl, rfl⟩ ?_
 · exact tL [0, 1]
 rintro q fr st ⟨i, hi, rfl, hok, rfl, rfl⟩ R hR
 (conv => whnf)
 refine SIf.ds (fun hlt => ?_) (fun hge => ?_)
 · have hi' : i < s.pods.length := by omega
   have he := gE hi'
   generalize s.pods[i] = e at he
   ((conv => whnf); repeat ((first | refine ye (map_get' (by omega) he) ?_ | refine zz ?_) <;> (conv => whnf)))
   refine SIf.mk (fun hp => ?_) (fun hp => ?_)
   · ((conv => whnf); repeat ((first | refine ye (map_get' (by omega) he) ?_ | refine zz ?_) <;> (conv => whnf)))
     rw [find_some he hp hok]
     exact pure_free rfl rfl
   · ((conv => whnf); repeat ((first | refine zz ?_) <;> (conv => whnf)))
     refine hR (s.pods.length - (i + 1)) _ _ (by omega) ⟨_, _, ?_, i + 1, by omega, rfl, hok.succ he hp, rfl, rfl⟩
     exact tL [0, 1]
 · ((conv => whnf); repeat ((first | refine zz ?_) <;> (conv => whnf)))
   rw [find_none (hok.all (by omega))]
   exact pure_tup1 (ds := podR podZ) celA rfl rfl
theorem rgetnode_ok (s : StD) (name : Str) (hl : LenOk s.nodes) : Pure P 40 [stV s, .s name] (· = nodeO (s.nodes.find? fun p => p.name == name)) := by
 have hlm : (s.nodes.map nodeR).length = s.nodes.length := List.length_map _
 unfold LenOk at hl
 refine pure_fn (hG _ AF.f40 rfl) rfl ?_
 ((conv => whnf); repeat ((first | refine zz ?_) <;> (conv => whnf)))
 refine SLoopZ.by (fun q fr st => ∃ i : Nat, i ≤ s.nodes.length ∧ q = s.nodes.length - i ∧ NoneYet (fun p => p.name == name) s.nodes i ∧
  fr = [(10, .i .i64 i), (9, .i .i64 (s.nodes.map nodeR).length), (4, .p (.l 1) 0), (2, .p (.l 0) 0), (1, .s name)] ∧ st = ⟨noG, ⟨2, [(1, .cs (nodeR nodeZ)), (0, .cs [.sl none 6 (s.nodes.map nodeR), .sl none 16 (s.pods.map podR)])]⟩⟩)
  s.nodes.length ⟨_, _, ?_, 0, Nat.zero_le _, rfl, NoneYet.zero, rfl, rfl⟩ ?_
 · exact tL [0, 1]
 rintro q fr st ⟨i, hi, rfl, hok, rfl, rfl⟩ R hR
 (conv => whnf)
 refine SIf.ds (fun hlt => ?_) (fun hge => ?_)
 · have hi' : i < s.nodes.length := by omega
   have he := gE hi'
   generalize s.nodes[i] = e at he
   ((conv => whnf); repeat ((first | refine ye (map_get' (by omega) he) ?_ | refine zz ?_) <;> (conv => whnf)))
   refine SIf.mk (fun hp => ?_) (fun hp => ?_)
   · ((conv => whnf); repeat ((first | refine ye (map_get' (by omega) he) ?_ | refine zz ?_) <;> (conv => whnf)))
     rw [find_some he hp hok]
     exact pure_free rfl rfl
   · ((conv => whnf); repeat ((first | refine zz ?_) <;> (conv => whnf)))
     refine hR (s.nodes.length - (i + 1)) _ _ (by omega) ⟨_, _, ?_, i + 1, by omega, rfl, hok.succ he hp, rfl, rfl⟩
     exact tL [0, 1]
 · ((conv => whnf); repeat ((first | refine zz ?_) <;> (conv => whnf)))
   rw [find_none (hok.all (by omega))]
   exact pure_tup1 (ds := nodeR nodeZ) celA rfl rfl
theorem rwith_ok (s : StD) (p : PodD) (hs : s.pods.length * 248 + 1000 ≤ 140737488355328) : Pure P 14 [stV s, .agg (podR p)] (fun u => ∃ w, u = stV w ∧ WithOf s p w) := by
 have hlm : (s.pods.map podR).length = s.pods.length := List.length_map _
 have hg := rgetpod_ok hG s p.name (by unfold LenOk; omega)
 obtain ⟨o, ho⟩ : ∃ o, o = (s.pods.find? fun q => q.name == p.name) := ⟨_, rfl⟩
 rw [← ho] at hg
 refine pure_fn (hG _ AF.f14 rfl) rfl ?_
 obtain ⟨z, t, hz⟩ : ∃ (z : PodD) (t : Bool), podO o = .tup [.agg (podR z), .b t] := by cases o <;> exact ⟨_, _, rfl⟩
 rw [hz] at hg
 ((conv => whnf); repeat ((first | refine cA (Pure.go hg rfl) ?_ | refine zz ?_) <;> (conv => whnf)))
 refine SLoopZ.by (fun q fr st => ∃ (i : Nat) (d b : Bool) (es : List PodD), i ≤ s.pods.length ∧ q = s.pods.length - i ∧ SoFar s p i d es ∧ (b = false → es = []) ∧
  fr = [(23, .i .i64 i), (22, .i .i64 (s.pods.map podR).length), (8, .b d), (7, .b t), (5, .p (.l 3) 0), (4, .p (.l 2) 0), (3, .p (.l 1) 0), (2, .p (.l 0) 0)] ∧
  st = accS b 4 [(3, .cs [.sl none 6 (s.nodes.map nodeR), accV b 4 16 (es.map podR)]), (2, .cs [.nils, .nils]), (1, .cs (podR p)), (0, .cs [.sl none 6 (s.nodes.map nodeR), .sl none 16 (s.pods.map podR)])])
  s.pods.length ⟨_, _, ?_, 0, false, false, [], Nat.zero_le _, rfl, ⟨Nat.zero_le _, (fun q h => by cases h), rfl, rfl⟩, fun _ => rfl, rfl, rfl⟩ ?_
 · exact tL [0, 1, 2, 3]
 rintro q fr st ⟨i, d, b, es, hi, rfl, hg, hb, rfl, rfl⟩ R hR
 have hesl : es.length ≤ i + 1 := by have := hg.len; cases d <;> simp at this <;> omega
 (conv => whnf)
 refine SIf.ds (fun hlt => ?_) (fun hge => ?_)
 · have hi' : i < s.pods.length := by omega
   have he := gE hi'
   have hm := List.getElem_mem hi'
   generalize s.pods[i] = e at he hm
   have k0 := hg.s he
   have k2 := hg.e he
   have hint1 : es.map podR ++ [podR p] = (es ++ [p]).map podR := by rw [List.map_append]; rfl
   have hint2 : es.map podR ++ [podR e] = (es ++ [e]).map podR := by rw [List.map_append]; rfl
   have hint3 : (es ++ [p]).map podR ++ [podR e] = (es ++ [p] ++ [e]).map podR := by simp only [List.map_append, List.map_cons, List.map_nil]
   cases b <;> cases d
   · obtain rfl : es = [] := hb rfl
     have k1 := hg.p.s he
     have k3 := hg.p.e he
     ((conv => whnf); repeat' ((first | refine ye (map_get' (by omega) he) ?_ | refine zz ?_ | refine SIf.ds (fun _ => ?_) (fun _ => ?_) | refine SIf.ns (fun _ => ?_) (fun _ => ?_) | refine SIf.mk (fun _ => ?_) (fun _ => ?_) | (intro r hr; cases r)) <;> (conv => whnf)))
     · refine hR (s.pods.length - (i + 1)) _ _ (by omega) ⟨_, _, ?_, i + 1, true, true, [] ++ [p], by omega, rfl, k1 (by assumption), (fun h => by cases h), rfl, rfl⟩
       exact tL [0, 1, 2, 3, 5]
     · refine hR (s.pods.length - (i + 1)) _ _ (by omega) ⟨_, _, ?_, i + 1, true, true, [] ++ [p] ++ [e], by omega, rfl, k3 (by first | assumption | simp_all), (fun h => by cases h), rfl, rfl⟩
       exact tL [0, 1, 2, 3, 7]
     · refine hR (s.pods.length - (i + 1)) _ _ (by omega) ⟨_, _, ?_, i + 1, false, true, [] ++ [e], by omega, rfl, k2 (by first | assumption | simp_all), (fun h => by cases h), rfl, rfl⟩
       exact tL [0, 1, 2, 3, 5]
     · refine hR (s.pods.length - (i + 1)) _ _ (by omega) ⟨_, _, ?_, i + 1, false, true, [] ++ [e], by omega, rfl, k2 (by first | assumption | simp_all), (fun h => by cases h), rfl, rfl⟩
       exact tL [0, 1, 2, 3, 5]
   · obtain rfl : es = [] := hb rfl
     ((conv => whnf); repeat' ((first | refine ye (map_get' (by omega) he) ?_ | refine zz ?_ | refine SIf.ds (fun _ => ?_) (fun _ => ?_) | refine SIf.ns (fun _ => ?_) (fun _ => ?_) | refine SIf.mk (fun _ => ?_) (fun _ => ?_) | (intro r hr; cases r)) <;> (conv => whnf)))
     · refine hR (s.pods.length - (i + 1)) _ _ (by omega) ⟨_, _, ?_, i + 1, true, false, [], by omega, rfl, k0 (by assumption), fun _ => rfl, rfl, rfl⟩
       exact tL [0, 1, 2, 3]
     all_goals
      refine hR (s.pods.length - (i + 1)) _ _ (by omega) ⟨_, _, ?_, i + 1, true, true, [] ++ [e], by omega, rfl, k2 (by first | assumption | simp_all), (fun h => by cases h), rfl, rfl⟩
      exact tL [0, 1, 2, 3, 5]
   · have k1 := hg.p.s he
     have k3 := hg.p.e he
     ((conv => whnf); repeat' ((first | refine ye (congrArg some hint1) ?_ | refine ye (congrArg some hint2) ?_ | refine ye (congrArg some hint3) ?_ | refine SChk.mk (by simp [roomOk]; omega) ?_ | refine ye (map_get' (by omega) he) ?_ | refine zz ?_ | refine SIf.ds (fun _ => ?_) (fun _ => ?_) | refine SIf.ns (fun _ => ?_) (fun _ => ?_) | refine SIf.mk (fun _ => ?_) (fun _ => ?_) | (intro r hr; cases r)) <;> (conv => whnf)))
     · refine hR (s.pods.length - (i + 1)) _ _ (by omega) ⟨_, _, ?_, i + 1, true, true, es ++ [p], by omega, rfl, k1 (by assumption), (fun h => by cases h), rfl, rfl⟩
       exact tL [0, 1, 2, 3, 6]
     · refine hR (s.pods.length - (i + 1)) _ _ (by omega) ⟨_, _, ?_, i + 1, true, true, es ++ [p] ++ [e], by omega, rfl, k3 (by first | assumption | simp_all), (fun h => by cases h), rfl, rfl⟩
       exact tL [0, 1, 2, 3, 8]
     · refine hR (s.pods.length - (i + 1)) _ _ (by omega) ⟨_, _, ?_, i + 1, false, true, es ++ [e], by omega, rfl, k2 (by first | assumption | simp_all), (fun h => by cases h), rfl, rfl⟩
       exact tL [0, 1, 2, 3, 6]
     · refine hR (s.pods.length - (i + 1)) _ _ (by omega) ⟨_, _, ?_, i + 1, false, true, es ++ [e], by omega, rfl, k2 (by first | assumption | simp_all), (fun h => by cases h), rfl, rfl⟩
       exact tL [0, 1, 2, 3, 6]
   · ((conv => whnf); repeat' ((first | refine ye (congrArg some hint2) ?_ | refine SChk.mk (by simp [roomOk]; omega) ?_ | refine ye (map_get' (by omega) he) ?_ | refine zz ?_ | refine SIf.ds (fun _ => ?_) (fun _ => ?_) | refine SIf.ns (fun _ => ?_) (fun _ => ?_) | refine SIf.mk (fun _ => ?_) (fun _ => ?_) | (intro r hr; cases r)) <;> (conv => whnf)))
     · refine hR (s.pods.length - (i + 1)) _ _ (by omega) ⟨_, _, ?_, i + 1, true, true, es, by omega, rfl, k0 (by assumption), (fun h => by cases h), rfl, rfl⟩
       exact tL [0, 1, 2, 3, 4]
     all_goals
       refine hR (s.pods.length - (i + 1)) _ _ (by omega) ⟨_, _, ?_, i + 1, true, true, es ++ [e], by omega, rfl, k2 (by first | assumption | simp_all), (fun h => by cases h), rfl, rfl⟩
       exact tL [0, 1, 2, 3, 6]
 · have hwl := hg.len
   have hint1 : es.map podR ++ [podR p] = (es ++ [p]).map podR := by rw [List.map_append]; rfl
   have fin : ∀ ds : List PodD, SoFar s p i true ds → ∃ w, V.agg [.sl none 6 (s.nodes.map nodeR), .sl none 16 (ds.map podR)] = stV w ∧ WithOf s p w := fun ds hds =>
    ⟨⟨s.nodes, ds⟩, rfl, rfl, hds.sub, (by have := hds.len; simp at this; show ds.length ≤ _; omega), (by have := hds.rest; rw [List.take_of_length_le (by omega)] at this; exact this), hds.one⟩
   have g0 : d = true → SoFar s p i true es := fun h => h ▸ hg
   cases b <;> cases d
   · obtain rfl : es = [] := hb rfl
     ((conv => whnf); repeat ((first | refine zz ?_) <;> (conv => whnf)))
     exact pure_agg1 celA rfl (fin ([] ++ [p]) hg.p)
   · obtain rfl : es = [] := hb rfl
     ((conv => whnf); repeat ((first | refine zz ?_) <;> (conv => whnf)))
     exact pure_agg1 celA rfl (fin [] hg)
   · ((conv => whnf); repeat ((first | refine ye (congrArg some hint1) ?_ | refine SChk.mk (by simp [roomOk]; omega) ?_ | refine zz ?_) <;> (conv => whnf)))
     exact pure_agg1 celA rfl (fin (es ++ [p]) hg.p)
   · ((conv => whnf); repeat ((first | refine zz ?_) <;> (conv => whnf)))
     exact pure_agg1 celA rfl (fin es hg)
end
end Go.Eng
