/-
Each of them stands for its function of the program.
-/
import Derived.Test.YtaddlnjgamlleaaGreatAg
import Derived.Test.YtaddlnjgamlleaaGreatRows
import Derived.KernelRfl
set_option maxRecDepth 1000000
namespace Go.Proofs.YtaddlnjgamlleaaGreat
open Go Go.Eng Go.Eng.AF
theorem gns_ok : AF.gns.ok Tryz.prog = true := by kernel_rfl
theorem gnsOk : FnsOk Tryz.prog AF.gns.get := FT.get_ok gns_ok
end Go.Proofs.YtaddlnjgamlleaaGreat
