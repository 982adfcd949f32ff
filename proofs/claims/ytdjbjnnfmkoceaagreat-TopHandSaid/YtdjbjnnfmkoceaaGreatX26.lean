/-
Calls of values alone, run.
-/
import Derived.Test.YtdjbjnnfmkoceaaGreatX22
import Derived.KernelRfl
set_option linter.unusedVariables false
set_option linter.unusedSimpArgs false
set_option maxRecDepth 1000000
namespace Go.Eng
open Go
theorem Cr:aY pP 15 Lv=true:=by kernel_rfl
theorem Cs:aY pP 16 Lw=true:=by kernel_rfl
theorem Ct:aY pP 48 Lx=true:=by kernel_rfl
theorem Cu:aY pP 53 Ly=true:=by kernel_rfl
theorem Cv:aY pP 82 Lz=true:=by kernel_rfl
theorem Cw:aY pP 85 LA=true:=by kernel_rfl
theorem Cx:aY pP 94 LB=true:=by kernel_rfl
theorem Cy:aY pP 95 LC=true:=by kernel_rfl
theorem Aq:aY pP 120 H8=true:=by kernel_rfl
theorem Ar:aY pP 194 H9=true:=by kernel_rfl
end Go.Eng
