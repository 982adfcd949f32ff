/-
interrexlaw10.begun answers true.
-/
import Derived.Test.YtfobkjdmohaakaaGreatCalls1
import Derived.Test.YtfobkjdmohaakaaGreatRunD
namespace Go.Proofs.YtfobkjdmohaakaaGreat
open Go.Eng
theorem law10_begun : ACall Tryz.prog 146 [] noG (fun r _ => r = .b true) := of_run orcC_ok AF.runD
end Go.Proofs.YtfobkjdmohaakaaGreat
