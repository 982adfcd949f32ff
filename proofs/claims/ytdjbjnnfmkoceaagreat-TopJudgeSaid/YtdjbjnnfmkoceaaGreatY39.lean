/-
Rounds of a world.
-/
import Derived.Test.YtdjbjnnfmkoceaaGreatYRk
import Derived.KernelRfl
set_option linter.unusedVariables false
set_option linter.unusedSimpArgs false
set_option maxRecDepth 1000000
namespace Go.Eng
open Go
theorem ag3:zA qS pO Ek aD AF.f41.nparams JL JM Ns=true:=by kernel_rfl
theorem adA:aL cR aI aD 4 Ns Nt=true:=by kernel_rfl
theorem adB:aL cR aI aD 4 Nt Nu=true:=by kernel_rfl
theorem adC:aL cR aI aD 7 Nu Nv=true:=by kernel_rfl
theorem adD:aL cR aI aD 7 Nv Nw=true:=by kernel_rfl
theorem adE:aL cR aI aD 7 Nw Nx=true:=by kernel_rfl
theorem adF:aL cR aI aD 7 Nx Ny=true:=by kernel_rfl
theorem adG:aL cR aI aD 7 Ny Nz=true:=by kernel_rfl
theorem adH:aL cR aI aD 7 Nz NA=true:=by kernel_rfl
end Go.Eng
