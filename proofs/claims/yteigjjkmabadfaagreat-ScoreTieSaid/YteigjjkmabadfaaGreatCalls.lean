/-
What the closed functions answer.
-/
import Derived.Test.YteigjjkmabadfaaGreatRunA
import Derived.Test.YteigjjkmabadfaaGreatRunB
import Derived.Test.YteigjjkmabadfaaGreatAfOk
import Derived.Test.YteigjjkmabadfaaGreatSort1
import Derived.Test.YteigjjkmabadfaaGreatRunD
import Derived.Test.YteigjjkmabadfaaGreatRunD2
import Derived.Test.YteigjjkmabadfaaGreatRunE
import Derived.Test.YteigjjkmabadfaaGreatCmp1
namespace Go.Proofs.YteigjjkmabadfaaGreat
open Go.Eng

theorem orcA_ok : RunOk Tryz.prog (orcOf 281 320 339) := by
  intro f args h r h' hr K hK
  unfold orcOf at hr
  split at hr
  · rename_i hf
    have := Nat.eq_of_beq_eq_true hf
    subst this
    exact add_ok args h r h' hr K hK
  · split at hr
    · rename_i hf
      have := Nat.eq_of_beq_eq_true hf
      subst this
      exact sorted_ok args h r h' hr K hK
    · cases hr
theorem known_ok {cs : List Nat} {base : Orc} (hb : RunOk Tryz.prog base) (hc : ∀ f ∈ cs, ACall Tryz.prog f [] noG (fun r _ => r = .b true)) : RunOk Tryz.prog (known cs base) := by
  intro f args h r h' hr K hK
  unfold known at hr
  split at hr
  · rename_i hm
    split at hr
    · cases hr
      exact (hc f (memNat_iff.1 hm)).frame rfl fun v h' hv => by subst hv; exact ⟨rfl, hK⟩
    · cases hr
  · exact hb f args h r h' hr K hK
theorem of_run {orc : Orc} (ho : RunOk Tryz.prog orc) {n f : Nat} (h : isTrue (runF AF.fns.get 276 orc n f [] noG) = true) : ACall Tryz.prog f [] noG (fun r _ => r = .b true) := by
  obtain ⟨h', hx⟩ := isTrue_spec h
  rw [runF_eq] at hx
  exact runFn_ok fnsOk once_ok ho hx rfl
theorem law1_begun : ACall Tryz.prog 244 [] noG (fun r _ => r = .b true) := of_run orcA_ok AF.runA
theorem orcB_ok : RunOk Tryz.prog (known [244] (orcOf 281 320 339)) := known_ok orcA_ok fun f hf => by
  simp at hf; subst hf; exact law1_begun
theorem law6_begun : ACall Tryz.prog 111 [] noG (fun r _ => r = .b true) := of_run orcB_ok AF.runB
theorem orcC_ok : RunOk Tryz.prog (known [244, 111] (orcOf 281 320 339)) := known_ok orcA_ok fun f hf => by
  simp at hf
  rcases hf with rfl | rfl
  · exact law1_begun
  · exact law6_begun
end Go.Proofs.YteigjjkmabadfaaGreat
/-
interrexlaw10.begun answers true.
-/
namespace Go.Proofs.YteigjjkmabadfaaGreat
open Go.Eng
theorem law10_begun : ACall Tryz.prog 51 [] noG (fun r _ => r = .b true) := of_run orcC_ok AF.runD
end Go.Proofs.YteigjjkmabadfaaGreat
/-
interrexlaw18.begun answers true.
-/
namespace Go.Proofs.YteigjjkmabadfaaGreat
open Go.Eng
theorem orcD_ok : RunOk Tryz.prog (known [51] (orcOf 281 320 339)) := known_ok orcA_ok fun f hf => by
  simp at hf; subst hf; exact law10_begun
theorem law10_Begun : ACall Tryz.prog 20 [] noG (fun r _ => r = .b true) := of_run orcD_ok AF.runD2
theorem orcCmp_ok : RunOk Tryz.prog (orcC 82 (orcOf 281 320 339)) := by
  intro f args h r h' hr K hK
  unfold orcC at hr
  split at hr
  · rename_i hf
    have := Nat.eq_of_beq_eq_true hf
    subst this
    split at hr
    · cases hr
      exact cmpS_ok _ _ _ _ hK
    · cases hr
  · exact orcA_ok f args h r h' hr K hK
theorem orcE_ok : RunOk Tryz.prog (known [20] (orcC 82 (orcOf 281 320 339))) := known_ok orcCmp_ok fun f hf => by
  simp at hf; subst hf; exact law10_Begun
theorem law18_begun : ACall Tryz.prog 5 [] noG (fun r _ => r = .b true) := of_run orcE_ok AF.runE
end Go.Proofs.YteigjjkmabadfaaGreat
