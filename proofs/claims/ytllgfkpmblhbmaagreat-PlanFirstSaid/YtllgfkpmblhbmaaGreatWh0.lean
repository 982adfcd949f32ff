/-
How names are compared; where a pod may go.
-/
import Derived.Test.YtllgfkpmblhbmaaGreatFitG
import Derived.Test.YtllgfkpmblhbmaaGreatFitD
set_option linter.unusedVariables false
set_option linter.unusedSimpArgs false
namespace Go.Eng
open Go
/-- The nodes to which a pod may go. -/
def whereD (s : StD) (p : PodD) : List Str := (s.nodes.filter fun n => feasD s p n.name).map (·.name)
abbrev CmpOk (P : Program) : Prop := ∀ (a b : Str) (h : Heap) (K : V → Heap → Prop), K (.i .i64 (cmpB a b)) h → ACall P 96 [.s a, .s b] h K
section
variable {P : Program} (hG : FnsOk P AF.fns.get)
include hG
theorem compare_ok (hcmp : CmpOk P) (a b : Str) : Pure P 45 [.s a, .s b] (· = .i .i64 (cmpB a b)) := by
  refine pure_fn (hG _ AF.f45 rfl) rfl ?_
  ((conv => whnf); repeat ((first | refine SCall.app (hcmp _ _ _ _) ?_ | refine yf rfl ?_ | refine yt rfl ?_ | refine yo rfl ?_ | refine yc rfl ?_ | refine ys rfl ?_ | refine ye rfl ?_ | refine yn rfl ?_ | refine zw ?_ | refine zdt ?_ | refine zdf ?_ | refine znt ?_ | refine znf ?_ | refine zcd ?_ | refine zci ?_ | refine zc3 ?_) <;> (conv => whnf)))
  exact pure_free rfl rfl
end
end Go.Eng
