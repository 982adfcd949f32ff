/-
interrexlaw10.begun answers true.
-/
import Derived.Test.YtaddlnjgamlleaaGreatCalls1
import Derived.Test.YtaddlnjgamlleaaGreatRunD
namespace Go.Proofs.YtaddlnjgamlleaaGreat
open Go.Eng
theorem law10_begun : ACall Tryz.prog 20 [] noG (fun r _ => r = .b true) := of_run orcC_ok AF.runD
end Go.Proofs.YtaddlnjgamlleaaGreat
