/-
interrexlaw10.begun answers true.
-/
import Derived.Test.YtjoaahnmbonboaaGreatCalls1
import Derived.Test.YtjoaahnmbonboaaGreatRunD
namespace Go.Proofs.YtjoaahnmbonboaaGreat
open Go.Eng
theorem law10_begun : ACall Tryz.prog 11 [] noG (fun r _ => r = .b true) := of_run orcC_ok AF.runD
end Go.Proofs.YtjoaahnmbonboaaGreat
