/-
A state with a pod behind all others: see FE1.
-/
import Derived.Test.YtabnhgnnolfpgaaGreatFE1
set_option linter.unusedVariables false
set_option linter.unusedSimpArgs false
namespace Go.Eng
end Go.Eng
