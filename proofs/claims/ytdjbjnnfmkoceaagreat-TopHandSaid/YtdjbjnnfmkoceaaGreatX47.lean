/-
Calls of values alone, run.
-/
import Derived.Test.YtdjbjnnfmkoceaaGreatX22
import Derived.KernelRfl
set_option linter.unusedVariables false
set_option linter.unusedSimpArgs false
set_option maxRecDepth 1000000
namespace Go.Eng
open Go
theorem AA:aY uD 45 Ij=true:=by kernel_rfl
theorem AB:aY uD 45 Ik=true:=by kernel_rfl
theorem AD:aY uD 45 Il=true:=by kernel_rfl
theorem EE:aY uD 69 PN=true:=by kernel_rfl
end Go.Eng
