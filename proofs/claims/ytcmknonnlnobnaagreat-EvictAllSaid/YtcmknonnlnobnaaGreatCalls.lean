/-
What the closed functions answer.
-/
import Derived.Test.YtcmknonnlnobnaaGreatRunA
import Derived.Test.YtcmknonnlnobnaaGreatRunB
import Derived.Test.YtcmknonnlnobnaaGreatAfOk
import Derived.Test.YtcmknonnlnobnaaGreatSort1
import Derived.Test.YtcmknonnlnobnaaGreatRunD
import Derived.Test.YtcmknonnlnobnaaGreatRunD2
import Derived.Test.YtcmknonnlnobnaaGreatRunE
import Derived.Test.YtcmknonnlnobnaaGreatCmp1
set_option linter.unusedVariables false
set_option linter.unusedSimpArgs false
namespace Go.Proofs.YtcmknonnlnobnaaGreat
open Go.Eng
theorem orcA_ok : RunOk Tryz.prog (orcOf 69 80 164) := by
 intro f args h r h' hr K hK
 unfold orcOf at hr
 split at hr
 · rename_i hf
   have := Nat.eq_of_beq_eq_true hf
   subst this
   exact add_ok args h r h' hr K hK
 · split at hr
   · rename_i hf
     have := Nat.eq_of_beq_eq_true hf
     subst this
     exact sorted_ok args h r h' hr K hK
   · cases hr
theorem known_ok {cs : List Nat} {base : Orc} (hb : RunOk Tryz.prog base) (hc : ∀ f ∈ cs, ACall Tryz.prog f [] noG (fun r _ => r = .b true)) : RunOk Tryz.prog (known cs base) := by
 intro f args h r h' hr K hK
 unfold known at hr
 split at hr
 · rename_i hm
   split at hr
   · cases hr
     exact (hc f (memNat_iff.1 hm)).frame rfl fun v h' hv => by subst hv; exact ⟨rfl, hK⟩
   · cases hr
 · exact hb f args h r h' hr K hK
theorem of_run {orc : Orc} (ho : RunOk Tryz.prog orc) {n f : Nat} (h : isTrue (runF AF.fns.get 317 orc n f [] noG) = true) : ACall Tryz.prog f [] noG (fun r _ => r = .b true) := by
 obtain ⟨h', hx⟩ := isTrue_spec h
 rw [runF_eq] at hx
 exact runFn_ok fnsOk once_ok ho hx rfl
theorem law1_begun : ACall Tryz.prog 353 [] noG (fun r _ => r = .b true) := of_run orcA_ok AF.runA
theorem orcB_ok : RunOk Tryz.prog (known [353] (orcOf 69 80 164)) := known_ok orcA_ok fun f hf => by
 simp at hf; subst hf; exact law1_begun
theorem law6_begun : ACall Tryz.prog 203 [] noG (fun r _ => r = .b true) := of_run orcB_ok AF.runB
theorem orcC_ok : RunOk Tryz.prog (known [353, 203] (orcOf 69 80 164)) := known_ok orcA_ok fun f hf => by
 simp at hf
 rcases hf with rfl | rfl
 · exact law1_begun
 · exact law6_begun
end Go.Proofs.YtcmknonnlnobnaaGreat
/-
interrexlaw10.begun answers true.
-/
namespace Go.Proofs.YtcmknonnlnobnaaGreat
open Go.Eng
theorem law10_begun : ACall Tryz.prog 104 [] noG (fun r _ => r = .b true) := of_run orcC_ok AF.runD
end Go.Proofs.YtcmknonnlnobnaaGreat
/-
interrexlaw18.begun answers true.
-/
namespace Go.Proofs.YtcmknonnlnobnaaGreat
open Go.Eng
theorem orcD_ok : RunOk Tryz.prog (known [104] (orcOf 69 80 164)) := known_ok orcA_ok fun f hf => by
 simp at hf; subst hf; exact law10_begun
theorem law10_Begun : ACall Tryz.prog 35 [] noG (fun r _ => r = .b true) := of_run orcD_ok AF.runD2
theorem orcCmp_ok : RunOk Tryz.prog (orcC 117 (orcOf 69 80 164)) := by
 intro f args h r h' hr K hK
 unfold orcC at hr
 split at hr
 · rename_i hf
   have := Nat.eq_of_beq_eq_true hf
   subst this
   split at hr
   · cases hr
     exact cmpS_ok _ _ _ _ hK
   · cases hr
 · exact orcA_ok f args h r h' hr K hK
theorem orcE_ok : RunOk Tryz.prog (known [35] (orcC 117 (orcOf 69 80 164))) := known_ok orcCmp_ok fun f hf => by
 simp at hf; subst hf; exact law10_Begun
theorem law18_begun : ACall Tryz.prog 6 [] noG (fun r _ => r = .b true) := of_run orcE_ok AF.runE
end Go.Proofs.YtcmknonnlnobnaaGreat
