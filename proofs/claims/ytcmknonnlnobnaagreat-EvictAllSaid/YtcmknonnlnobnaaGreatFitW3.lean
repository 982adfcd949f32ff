/-
A state without some pods; who may go somewhere may go there without others.
-/
import Derived.Test.YtcmknonnlnobnaaGreatFitW2
set_option linter.unusedVariables false
set_option linter.unusedSimpArgs false
namespace Go.Eng
open Go
/-! The plain law. -/
end Go.Eng
