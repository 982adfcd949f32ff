/-
Rounds of a world.
-/
import Derived.Test.YtdjbjnnfmkoceaaGreatYRk
import Derived.KernelRfl
set_option linter.unusedVariables false
set_option linter.unusedSimpArgs false
set_option maxRecDepth 1000000
namespace Go.Eng
open Go
theorem acO:aL cR aI aD 7 M4 M5=true:=by kernel_rfl
theorem acP:aL cR aI aD 7 M5 Hi=true:=by kernel_rfl
theorem Td:aL cR aI aD 7 Hi Hj=true:=by kernel_rfl
theorem Te:aL cR aI aD 7 Hj Hk=true:=by kernel_rfl
theorem Tf:aL cR aI aD 7 Hk Hl=true:=by kernel_rfl
theorem Tg:aL cR aI aD 7 Hl Hm=true:=by kernel_rfl
theorem Th:aL cR aI aD 7 Hm Hn=true:=by kernel_rfl
theorem Ti:aL cR aI aD 7 Hn Ho=true:=by kernel_rfl
theorem Tj:aL cR aI aD 7 Ho Hp=true:=by kernel_rfl
end Go.Eng
