/-
slices.Sorted of a map's keys, as the contracts ask for it.
-/
import Derived.Test.YtcckglahpbmakaaGreatSort2
import Derived.Test.YtcckglahpbmakaaGreatCa2
set_option linter.unusedVariables false
set_option linter.unusedSimpArgs false
namespace Go.Proofs.YtcckglahpbmakaaGreat
open Go.Eng
theorem sortedOk : SortedOk Tryz.prog := ⟨sorted_keys, sorted_nil⟩
end Go.Proofs.YtcckglahpbmakaaGreat
