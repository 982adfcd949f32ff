/-
Each of them stands for its function of the program.
-/
import Derived.Test.YtaddlnjgamlleaaGreatAh
import Derived.Test.YtaddlnjgamlleaaGreatRows
import Derived.KernelRfl
set_option maxRecDepth 1000000
namespace Go.Proofs.YtaddlnjgamlleaaGreat
open Go Go.Eng Go.Eng.AF
theorem hns_ok : AF.hns.ok Tryz.prog = true := by kernel_rfl
theorem hnsOk : FnsOk Tryz.prog AF.hns.get := FT.get_ok hns_ok
end Go.Proofs.YtaddlnjgamlleaaGreat
