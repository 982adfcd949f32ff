/-
Rounds of a world.
-/
import Derived.Test.YtdjbjnnfmkoceaaGreatYRk
import Derived.KernelRfl
set_option linter.unusedVariables false
set_option linter.unusedSimpArgs false
set_option maxRecDepth 1000000
namespace Go.Eng
open Go
theorem ag1:zA qS pO Ek aD AF.f41.nparams JH JI Ni=true:=by kernel_rfl
theorem ac0:aL cR aI aD 4 Ni Nj=true:=by kernel_rfl
theorem ac1:aL cR aI aD 4 Nj Nk=true:=by kernel_rfl
theorem ac2:aL cR aI aD 7 Nk Nl=true:=by kernel_rfl
theorem ac3:aL cR aI aD 7 Nl Nm=true:=by kernel_rfl
theorem ac4:aL cR aI aD 7 Nm Nn=true:=by kernel_rfl
theorem ac5:aL cR aI aD 7 Nn No=true:=by kernel_rfl
theorem ac6:aL cR aI aD 7 No Np=true:=by kernel_rfl
theorem ac7:aL cR aI aD 7 Np Nq=true:=by kernel_rfl
end Go.Eng
