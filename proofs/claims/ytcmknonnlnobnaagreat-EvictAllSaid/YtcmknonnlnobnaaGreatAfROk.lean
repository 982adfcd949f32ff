/-
They stand for the program's.
-/
import Derived.Test.YtcmknonnlnobnaaGreatAfR
import Derived.Test.YtcmknonnlnobnaaGreatRows
import Derived.KernelRfl
set_option maxRecDepth 1000000
namespace Go.Proofs.YtcmknonnlnobnaaGreat
open Go Go.Eng Go.Eng.AF
theorem okrlist : okRFn Tryz.prog 56 rlist = true := by kernel_rfl
end Go.Proofs.YtcmknonnlnobnaaGreat
