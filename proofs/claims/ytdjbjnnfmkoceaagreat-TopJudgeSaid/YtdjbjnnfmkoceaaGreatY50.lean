/-
TopJudge, run.
-/
import Derived.Test.YtdjbjnnfmkoceaaGreatYRoK
import Derived.KernelRfl
set_option linter.unusedVariables false
set_option linter.unusedSimpArgs false
set_option maxRecDepth 1000000
namespace Go.Eng
open Go
theorem aAD:(fun X Y=>wM AF.f3.results (BY 1 0 X Y))=fun _ _=>true:=by kernel_rfl
theorem aAE:(fun X Y=>wM AF.f3.results (BY 1 1 X Y))=fun _ _=>true:=by kernel_rfl
theorem aAF:(fun X Y=>wM AF.f3.results (BY 1 2 X Y))=fun _ _=>true:=by kernel_rfl
theorem aAG:(fun X Y=>wM AF.f3.results (BY 1 3 X Y))=fun _ _=>true:=by kernel_rfl
theorem aAH:(fun X Y=>wM AF.f3.results (BY 1 4 X Y))=fun _ _=>true:=by kernel_rfl
open Go
theorem aAS:(fun X Y=>wM AF.f3.results (BY 4 0 X Y))=fun _ _=>true:=by kernel_rfl
theorem aAT:(fun X Y=>wM AF.f3.results (BY 4 1 X Y))=fun _ _=>true:=by kernel_rfl
theorem aAU:(fun X Y=>wM AF.f3.results (BY 4 2 X Y))=fun _ _=>true:=by kernel_rfl
theorem aAV:(fun X Y=>wM AF.f3.results (BY 4 3 X Y))=fun _ _=>true:=by kernel_rfl
theorem aAW:(fun X Y=>wM AF.f3.results (BY 4 4 X Y))=fun _ _=>true:=by kernel_rfl
end Go.Eng
