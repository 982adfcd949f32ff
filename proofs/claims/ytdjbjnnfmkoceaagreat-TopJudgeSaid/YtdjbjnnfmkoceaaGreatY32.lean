/-
Rounds of a world.
-/
import Derived.Test.YtdjbjnnfmkoceaaGreatYRk
import Derived.KernelRfl
set_option linter.unusedVariables false
set_option linter.unusedSimpArgs false
set_option maxRecDepth 1000000
namespace Go.Eng
open Go
theorem Tk:aL cR aI aD 7 Hp Hq=true:=by kernel_rfl
theorem Tm:aL cR aI aD 7 Hq Hr=true:=by kernel_rfl
theorem Tn:aL cR aI aD 7 Hr Hs=true:=by kernel_rfl
theorem To:aL cR aI aD 7 Hs Ht=true:=by kernel_rfl
theorem Tp:aL cR aI aD 7 Ht Hu=true:=by kernel_rfl
theorem Tq:aL cR aI aD 7 Hu Hv=true:=by kernel_rfl
theorem agY:qR cR aI El AF.f41.results aD 2 (Ej AF.f41.body) Hv JB JC=true:=by kernel_rfl
end Go.Eng
