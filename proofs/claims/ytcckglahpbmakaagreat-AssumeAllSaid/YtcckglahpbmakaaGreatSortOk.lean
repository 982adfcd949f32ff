/-
slices.Sorted of a map's keys, as the contracts ask for it.
-/
import Derived.Test.YtcckglahpbmakaaGreatSort2
import Derived.Test.YtcckglahpbmakaaGreatCa2
set_option linter.unusedVariables false
set_option linter.unusedSimpArgs false
namespace Go.Proofs.YtcckglahpbmakaaGreat
open Go.Eng
end Go.Proofs.YtcckglahpbmakaaGreat
