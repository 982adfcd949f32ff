/-
TopJudge: what it is asked stays.
-/
import Derived.Test.YtdjbjnnfmkoceaaGreatYRoK
import Derived.KernelRfl
set_option linter.unusedVariables false
set_option linter.unusedSimpArgs false
set_option maxRecDepth 1000000
namespace Go.Eng
open Go
theorem jS1:(fun X Y=>uP 0 (jP1 X Y))=fun X _=>X:=by kernel_rfl
theorem N2:(fun X Y=>uP 1 (jP2 0 X Y))=fun _ Y=>Y:=by kernel_rfl
theorem N3:(fun X Y=>uP 1 (jP2 1 X Y))=fun _ Y=>Y:=by kernel_rfl
theorem N4:(fun X Y=>uP 1 (jP2 2 X Y))=fun _ Y=>Y:=by kernel_rfl
theorem N5:(fun X Y=>uP 1 (jP2 3 X Y))=fun _ Y=>Y:=by kernel_rfl
theorem N6:(fun X Y=>uP 1 (jP2 4 X Y))=fun _ Y=>Y:=by kernel_rfl
open Go
theorem aAI:(fun X Y=>wM AF.f3.results (BY 2 0 X Y))=fun _ _=>true:=by kernel_rfl
theorem aAJ:(fun X Y=>wM AF.f3.results (BY 2 1 X Y))=fun _ _=>true:=by kernel_rfl
theorem aAK:(fun X Y=>wM AF.f3.results (BY 2 2 X Y))=fun _ _=>true:=by kernel_rfl
theorem aAL:(fun X Y=>wM AF.f3.results (BY 2 3 X Y))=fun _ _=>true:=by kernel_rfl
theorem aAM:(fun X Y=>wM AF.f3.results (BY 2 4 X Y))=fun _ _=>true:=by kernel_rfl
end Go.Eng
