/-
Copies of pods.
-/
import Derived.Test.YtcmknonnlnobnaaGreatFitB
set_option linter.unusedVariables false
set_option linter.unusedSimpArgs false
namespace Go.Eng
open Go
set_option linter.unnecessarySimpa false
structure TermsRoom (l : List TermD) : Prop where
 len : l.length * 48 ≤ 140737488355328
 each : ∀ t ∈ l, t.vals.length * 16 ≤ 140737488355328
structure PodRoom (p : PodD) : Prop where
 ports : p.ports.length * 8 ≤ 140737488355328
 labels : p.labels.length * 32 ≤ 140737488355328
 tols : p.tols.length * 40 ≤ 140737488355328
 sel : TermsRoom p.sel
 anti : TermsRoom p.anti
 even : TermsRoom p.even
theorem map_set {α : Type} {R : α → List V} {l : List α} {i j : Nat} {x : α} {e' : List V} (h : l[i]? = some x) (hj : j = i) (he : e' = R x) : (l.map R).set j e' = l.map R := by
 subst hj he
 apply List.ext_getElem?
 intro q
 rw [List.getElem?_set]
 split
 · rename_i e
   subst e
   rw [if_pos (by simpa using (List.getElem?_eq_some_iff.1 h).1), map_get h]
 · rfl
section
variable {P : Program} (hG : FnsOk P AF.fns.get)
include hG
theorem clone_int (l : List Int) (hl : l.length * 8 ≤ 140737488355328) : Pure P 180 [.sl none 1 (l.map intR)] (· = .sl none 1 (l.map intR)) := by
 refine pure_fn (hG _ AF.f180 rfl) rfl ?_
 cases l with
 | nil =>
   ((conv => whnf); repeat ((first | refine zz ?_) <;> (conv => whnf)))
   refine SAny.mk fun b => ?_
   cases b
   · ((conv => whnf); repeat ((first | refine zz ?_) <;> (conv => whnf)))
     exact pure_tok rfl
   · ((conv => whnf); repeat ((first | refine zz ?_) <;> (conv => whnf)))
     exact pure_nil rfl
 | cons x r =>
   ((conv => whnf); repeat ((first | refine ye (deep_map (fun _ => rfl) (x :: r)) ?_ | refine SChk.mk (by simpa [roomOk] using hl) ?_ | refine zz ?_) <;> (conv => whnf)))
   exact pure_tok rfl
theorem clone_tol (l : List TolD) (hl : l.length * 40 ≤ 140737488355328) : Pure P 182 [.sl none 3 (l.map tolR)] (· = .sl none 3 (l.map tolR)) := by
 refine pure_fn (hG _ AF.f182 rfl) rfl ?_
 cases l with
 | nil =>
   ((conv => whnf); repeat ((first | refine zz ?_) <;> (conv => whnf)))
   refine SAny.mk fun b => ?_
   cases b
   · ((conv => whnf); repeat ((first | refine zz ?_) <;> (conv => whnf)))
     exact pure_tok rfl
   · ((conv => whnf); repeat ((first | refine zz ?_) <;> (conv => whnf)))
     exact pure_nil rfl
 | cons x r =>
   ((conv => whnf); repeat ((first | refine ye (deep_map (fun _ => rfl) (x :: r)) ?_ | refine SChk.mk (by simpa [roomOk] using hl) ?_ | refine zz ?_) <;> (conv => whnf)))
   exact pure_tok rfl
set_option maxHeartbeats 4000000 in
theorem copyTerms_ok (l : List TermD) (hl : TermsRoom l) : Pure P 183 [.sl none 3 (l.map termR)] (· = .sl none 3 (l.map termR)) := by
 refine pure_fn (hG _ AF.f183 rfl) rfl ?_
 cases l with
 | nil =>
   ((conv => whnf); repeat ((first | refine zz ?_) <;> (conv => whnf)))
   refine SCall.mk (fn_sf (hG _ _ rfl) rfl ?_)
   ((conv => whnf); repeat ((first | refine zz ?_) <;> (conv => whnf)))
   refine SAny.mk fun b => ?_
   cases b
   · ((conv => whnf); repeat ((first | refine zz ?_ | refine SLoopZ.un rfl ?_) <;> (conv => whnf)))
     exact pure_ms (ds := []) rfl rfl (Nat.le_refl _) rfl
   · ((conv => whnf); repeat ((first | refine zz ?_ | refine SLoopZ.un rfl ?_) <;> (conv => whnf)))
     exact pure_nil rfl
 | cons x r =>
   obtain ⟨l, hll⟩ : ∃ l, l = x :: r := ⟨_, rfl⟩
   have hlm : (l.map termR).length = l.length := List.length_map _
   have hl1 := hl.len
   have hl2 : TermsRoom l := hll ▸ hl
   ((conv => whnf); repeat ((first | refine zz ?_) <;> (conv => whnf)))
   refine SCall.mk (fn_sf (hG _ _ rfl) rfl ?_)
   ((conv => whnf); repeat ((first | refine ye (own_map (fun _ => rfl) (x :: r)) ?_ | refine SChk.mk (by simpa [roomOk] using hl.len) ?_ | refine zz ?_) <;> (conv => whnf)))
   rw [← hll] at *
   refine SLoopZ.by (fun q fr st => ∃ i : Nat, i ≤ l.length ∧ q = l.length - i ∧ fr = [(9, .i .i64 i), (8, .i .i64 l.length), (3, .ms (.g 0) 3 0 l.length)] ∧ st = ⟨⟨1, [(0, .arr 3 (l.map termR))]⟩, noL⟩)
    l.length ⟨_, _, ?_, 0, Nat.zero_le _, rfl, rfl, rfl⟩ ?_
   · simp only [List.length_nil, Nat.zero_add, List.take_nil, List.drop_nil, List.nil_append, List.length_map]
     exact tG [1] []
   rintro q fr st ⟨i, hi, rfl, rfl, rfl⟩ R hR
   (conv => whnf)
   refine SIf.ds (fun hlt => ?_) (fun hge => ?_)
   · have hi' : i < l.length := by omega
     have he := gE hi'
     have hv := hl2.each _ (List.getElem_mem hi')
     generalize l[i] = e at he hv
     ((conv => whnf); repeat ((first | refine cA (Pure.go (clone_str hG _ hv) rfl) ?_ | refine ye (map_get' (by simp) he) ?_ | refine zz ?_) <;> (conv => whnf)))
     refine hR (l.length - (i + 1)) _ _ (by omega) ⟨_, _, ?_, i + 1, by omega, rfl, rfl, rfl⟩
     rw [map_set (R := termR) he]
     · exact tG [0] []
     · simp
     · rfl
   · ((conv => whnf); repeat ((first | refine zz ?_) <;> (conv => whnf)))
     exact pure_ms rfl (deep_map (fun _ => rfl) l) (by simp) (by simp [List.take_of_length_le])
theorem copyPod_ok (p : PodD) (hp : PodRoom p) : Pure P 97 [.agg (podR p)] (· = .agg (podR p)) := by
 refine pure_fn (hG _ AF.f97 rfl) rfl ?_
 ((conv => whnf); repeat ((first | refine cA (Pure.go (clone_int hG _ hp.ports) rfl) ?_ | refine cA (Pure.go (clone_pair hG _ hp.labels) rfl) ?_ | refine cA (Pure.go (clone_tol hG _ hp.tols) rfl) ?_ | refine cA (Pure.go (copyTerms_ok hG _ hp.sel) rfl) ?_ | refine cA (Pure.go (copyTerms_ok hG _ hp.anti) rfl) ?_ | refine cA (Pure.go (copyTerms_ok hG _ hp.even) rfl) ?_ | refine zz ?_) <;> (conv => whnf)))
 exact pure_free rfl rfl
end
end Go.Eng
