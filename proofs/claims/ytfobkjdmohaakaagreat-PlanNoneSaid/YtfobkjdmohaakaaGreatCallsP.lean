/-
PlanNone answers true.
-/
import Derived.Test.YtfobkjdmohaakaaGreatCalls3
import Derived.Test.YtfobkjdmohaakaaGreatRunP
namespace Go.Proofs.YtfobkjdmohaakaaGreat
open Go.Eng
theorem orcF_ok : RunOk Tryz.prog (known [21] (orcOf 330 368 391)) := known_ok orcA_ok fun f hf => by
  simp at hf; subst hf; exact law18_begun
theorem planNone_run : ACall Tryz.prog 3 [] noG (fun r _ => r = .b true) := of_run orcF_ok AF.runP
end Go.Proofs.YtfobkjdmohaakaaGreat
