/-
Clones, copies.
-/
import Derived.Test.YtcmknonnlnobnaaGreatFitA
set_option linter.unusedVariables false
set_option linter.unusedSimpArgs false
namespace Go.Eng
open Go
set_option linter.unnecessarySimpa false
theorem own_map {α : Type} {R : α → List V} {g : Bool} (h : ∀ x, ownG g (R x) = some (R x)) : ∀ l : List α, ownElems g (l.map R) = some (l.map R)
 | [] => rfl
 | x :: r => by simp only [List.map_cons, ownElems, h x, own_map h r]
section
variable {P : Program} (hG : FnsOk P AF.fns.get)
include hG
theorem clone_pair (l : List PairD) (hl : l.length * 32 ≤ 140737488355328) : Pure P 181 [.sl none 2 (l.map pairR)] (· = .sl none 2 (l.map pairR)) := by
 refine pure_fn (hG _ AF.f181 rfl) rfl ?_
 cases l with
 | nil =>
   ((conv => whnf); repeat ((first | refine zz ?_) <;> (conv => whnf)))
   refine SAny.mk fun b => ?_
   cases b
   · ((conv => whnf); repeat ((first | refine zz ?_) <;> (conv => whnf)))
     exact pure_tok rfl
   · ((conv => whnf); repeat ((first | refine zz ?_) <;> (conv => whnf)))
     exact pure_nil rfl
 | cons x r =>
   ((conv => whnf); repeat ((first | refine ye (deep_map (fun _ => rfl) (x :: r)) ?_ | refine SChk.mk (by simpa [roomOk] using hl) ?_ | refine zz ?_) <;> (conv => whnf)))
   exact pure_tok rfl
theorem clone_taint (l : List PairD) (hl : l.length * 32 ≤ 140737488355328) : Pure P 276 [.sl none 2 (l.map pairR)] (· = .sl none 2 (l.map pairR)) := by
 refine pure_fn (hG _ AF.f276 rfl) rfl ?_
 cases l with
 | nil =>
   ((conv => whnf); repeat ((first | refine zz ?_) <;> (conv => whnf)))
   refine SAny.mk fun b => ?_
   cases b
   · ((conv => whnf); repeat ((first | refine zz ?_) <;> (conv => whnf)))
     exact pure_tok rfl
   · ((conv => whnf); repeat ((first | refine zz ?_) <;> (conv => whnf)))
     exact pure_nil rfl
 | cons x r =>
   ((conv => whnf); repeat ((first | refine ye (deep_map (fun _ => rfl) (x :: r)) ?_ | refine SChk.mk (by simpa [roomOk] using hl) ?_ | refine zz ?_) <;> (conv => whnf)))
   exact pure_tok rfl
theorem clone_str (l : List Str) (hl : l.length * 16 ≤ 140737488355328) : Pure P 50 [.sl none 1 (l.map strR)] (· = .sl none 1 (l.map strR)) := by
 refine pure_fn (hG _ AF.f50 rfl) rfl ?_
 cases l with
 | nil =>
   ((conv => whnf); repeat ((first | refine zz ?_) <;> (conv => whnf)))
   refine SAny.mk fun b => ?_
   cases b
   · ((conv => whnf); repeat ((first | refine zz ?_) <;> (conv => whnf)))
     exact pure_ms (ds := []) rfl rfl (Nat.le_refl _) rfl
   · ((conv => whnf); repeat ((first | refine zz ?_) <;> (conv => whnf)))
     exact pure_nil rfl
 | cons x r =>
   ((conv => whnf); repeat ((first | refine ye (own_map (fun _ => rfl) (x :: r)) ?_ | refine SChk.mk (by simpa [roomOk] using hl) ?_ | refine zz ?_) <;> (conv => whnf)))
   refine pure_ms rfl (deep_map (fun _ => rfl) (x :: r)) (by simp) ?_
   simp [List.take_of_length_le]
theorem copyNode_ok (n : NodeD) (h1 : n.labels.length * 32 ≤ 140737488355328) (h2 : n.taints.length * 32 ≤ 140737488355328) : Pure P 172 [.agg (nodeR n)] (· = .agg (nodeR n)) := by
 refine pure_fn (hG _ AF.f172 rfl) rfl ?_
 ((conv => whnf); repeat ((first | refine cA (Pure.go (clone_pair hG _ h1) rfl) ?_ | refine cA (Pure.go (clone_taint hG _ h2) rfl) ?_ | refine zz ?_) <;> (conv => whnf)))
 exact pure_free rfl rfl
end
end Go.Eng
