/-
Rounds of a world.
-/
import Derived.Test.YtdjbjnnfmkoceaaGreatYRk
import Derived.KernelRfl
set_option linter.unusedVariables false
set_option linter.unusedSimpArgs false
set_option maxRecDepth 1000000
namespace Go.Eng
open Go
theorem ac8:aL cR aI aD 7 Nq Nr=true:=by kernel_rfl
theorem ac9:aL cR aI aD 7 Nr HK=true:=by kernel_rfl
theorem TE:aL cR aI aD 7 HK HL=true:=by kernel_rfl
theorem TF:aL cR aI aD 7 HL HM=true:=by kernel_rfl
theorem TG:aL cR aI aD 7 HM HN=true:=by kernel_rfl
theorem TI:aL cR aI aD 7 HN HO=true:=by kernel_rfl
theorem TJ:aL cR aI aD 7 HO HP=true:=by kernel_rfl
theorem TK:aL cR aI aD 7 HP HQ=true:=by kernel_rfl
theorem TL:aL cR aI aD 7 HQ HR=true:=by kernel_rfl
end Go.Eng
