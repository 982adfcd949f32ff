/-
interrexlaw18.begun answers true.
-/
import Derived.Test.YtfobkjdmohaakaaGreatCalls2
import Derived.Test.YtfobkjdmohaakaaGreatRunD2
import Derived.Test.YtfobkjdmohaakaaGreatRunE
import Derived.Test.YtfobkjdmohaakaaGreatCmp1
namespace Go.Proofs.YtfobkjdmohaakaaGreat
open Go.Eng
theorem orcD_ok : RunOk Tryz.prog (known [146] (orcOf 330 368 391)) := known_ok orcA_ok fun f hf => by
  simp at hf; subst hf; exact law10_begun
theorem law10_Begun : ACall Tryz.prog 66 [] noG (fun r _ => r = .b true) := of_run orcD_ok AF.runD2
theorem orcCmp_ok : RunOk Tryz.prog (orcC 114 (orcOf 330 368 391)) := by
  intro f args h r h' hr K hK
  unfold orcC at hr
  split at hr
  · rename_i hf
    have := Nat.eq_of_beq_eq_true hf
    subst this
    split at hr
    · cases hr
      exact cmpS_ok _ _ _ _ hK
    · cases hr
  · exact orcA_ok f args h r h' hr K hK
theorem orcE_ok : RunOk Tryz.prog (known [66] (orcC 114 (orcOf 330 368 391))) := known_ok orcCmp_ok fun f hf => by
  simp at hf; subst hf; exact law10_Begun
theorem law18_begun : ACall Tryz.prog 21 [] noG (fun r _ => r = .b true) := of_run orcE_ok AF.runE
end Go.Proofs.YtfobkjdmohaakaaGreat
