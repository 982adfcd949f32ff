/-
slices.Sorted of a map's keys, as the contracts ask for it.
-/
import Derived.Test.YthhlbhmneabhiaaGreatSort2
import Derived.Test.YthhlbhmneabhiaaGreatCa2
set_option linter.unusedVariables false
set_option linter.unusedSimpArgs false
namespace Go.Proofs.YthhlbhmneabhiaaGreat
open Go.Eng
theorem sortedOk : SortedOk Tryz.prog := ⟨sorted_keys, sorted_nil⟩
end Go.Proofs.YthhlbhmneabhiaaGreat
