/-
What one knows: events taken, all entries.
-/
import Derived.Test.YtcckglahpbmakaaGreatCa1
set_option linter.unusedVariables false
set_option linter.unusedSimpArgs false
namespace Go.Eng
open Go
section
variable {P : Program} (hG : FnsOk P AF.fns.get)
include hG
end
end Go.Eng
