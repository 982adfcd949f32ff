/-
Rounds of a world.
-/
import Derived.Test.YtdjbjnnfmkoceaaGreatX22
import Derived.KernelRfl
set_option linter.unusedVariables false
set_option linter.unusedSimpArgs false
set_option maxRecDepth 1000000
namespace Go.Eng
open Go
theorem Nw:aN dO aO aK 5 Nv Nx=true:=by kernel_rfl
theorem Ny:aN dO aO aK 5 Nx Nz=true:=by kernel_rfl
theorem NA:aN dO aO aK 5 Nz NB=true:=by kernel_rfl
theorem NC:aN dO aO aK 5 NB ND=true:=by kernel_rfl
theorem TE:mO dO aO Hb AF.f41.results aK 0 (zH AF.f41.body) ND TF TG=true:=by kernel_rfl
end Go.Eng
