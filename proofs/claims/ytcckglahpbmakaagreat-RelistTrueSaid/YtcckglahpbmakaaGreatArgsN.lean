/-
Arguments that are rows of bytes, of numbers, of bools.
-/
import Derived.Test.YtcckglahpbmakaaGreatArgX
import Derived.Test.YtcckglahpbmakaaGreatNOa
set_option linter.unusedVariables false
set_option linter.unusedSimpArgs false
namespace Go.Eng
open Go
end Go.Eng
