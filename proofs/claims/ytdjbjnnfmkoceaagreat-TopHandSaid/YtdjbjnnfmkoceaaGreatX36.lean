/-
Rounds of a world.
-/
import Derived.Test.YtdjbjnnfmkoceaaGreatX22
import Derived.KernelRfl
set_option linter.unusedVariables false
set_option linter.unusedSimpArgs false
set_option maxRecDepth 1000000
namespace Go.Eng
open Go
theorem Nk:aN dO aO aK 5 Nj Nl=true:=by kernel_rfl
theorem Nm:aN dO aO aK 5 Nl Nn=true:=by kernel_rfl
theorem No:aN dO aO aK 5 Nn Np=true:=by kernel_rfl
theorem Nq:aN dO aO aK 5 Np Nr=true:=by kernel_rfl
theorem Ns:aN dO aO aK 5 Nr Nt=true:=by kernel_rfl
theorem Nu:aN dO aO aK 5 Nt Nv=true:=by kernel_rfl
end Go.Eng
