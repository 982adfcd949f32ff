/-
slices.Sorted of a map's keys, however many there are.
-/
import Derived.Test.YtcckglahpbmakaaGreatSort1
import Derived.Test.YtcckglahpbmakaaGreatCaP
set_option linter.unusedVariables false
set_option linter.unusedSimpArgs false
namespace Go.Proofs
open Go.RowKit Go.Maps Go.Sort Go.Shelf
end Go.Proofs
namespace Go.Proofs.YtcckglahpbmakaaGreat
open Go.Eng

end Go.Proofs.YtcckglahpbmakaaGreat
