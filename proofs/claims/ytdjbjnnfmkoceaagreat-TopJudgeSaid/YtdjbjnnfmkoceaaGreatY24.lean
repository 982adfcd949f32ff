/-
Calls of values alone, run.
-/
import Derived.Test.YtdjbjnnfmkoceaaGreatYRk
import Derived.KernelRfl
set_option linter.unusedVariables false
set_option linter.unusedSimpArgs false
set_option maxRecDepth 1000000
namespace Go.Eng
open Go
theorem J2:bJ vR 15 Me=true:=by kernel_rfl
theorem J3:bJ vR 16 Mf=true:=by kernel_rfl
theorem J4:bJ vR 48 Mh=true:=by kernel_rfl
theorem J5:bJ vR 53 Mi=true:=by kernel_rfl
theorem J6:bJ vR 82 Mk=true:=by kernel_rfl
theorem J7:bJ vR 85 Ml=true:=by kernel_rfl
theorem J8:bJ vR 94 Mm=true:=by kernel_rfl
theorem J9:bJ rfG 95 Mn=true:=by kernel_rfl
theorem FJ:bJ vR 120 GB=true:=by kernel_rfl
theorem FK:bJ vR 194 GC=true:=by kernel_rfl
end Go.Eng
