/-
What the closed functions answer.
-/
import Derived.Test.YtomcdckppplieaaGreatRunA
import Derived.Test.YtomcdckppplieaaGreatRunB
import Derived.Test.YtomcdckppplieaaGreatAfOk
import Derived.Test.YtomcdckppplieaaGreatSort1
import Derived.Test.YtomcdckppplieaaGreatRunD
namespace Go.Proofs.YtomcdckppplieaaGreat
open Go.Eng

theorem orcA_ok : RunOk Tryz.prog (orcOf 46 202 223) := by
  intro f args h r h' hr K hK
  unfold orcOf at hr
  split at hr
  · rename_i hf
    have := Nat.eq_of_beq_eq_true hf
    subst this
    exact add_ok args h r h' hr K hK
  · split at hr
    · rename_i hf
      have := Nat.eq_of_beq_eq_true hf
      subst this
      exact sorted_ok args h r h' hr K hK
    · cases hr
theorem known_ok {cs : List Nat} {base : Orc} (hb : RunOk Tryz.prog base) (hc : ∀ f ∈ cs, ACall Tryz.prog f [] noG (fun r _ => r = .b true)) : RunOk Tryz.prog (known cs base) := by
  intro f args h r h' hr K hK
  unfold known at hr
  split at hr
  · rename_i hm
    split at hr
    · cases hr
      exact (hc f (memNat_iff.1 hm)).frame rfl fun v h' hv => by subst hv; exact ⟨rfl, hK⟩
    · cases hr
  · exact hb f args h r h' hr K hK
theorem of_run {orc : Orc} (ho : RunOk Tryz.prog orc) {n f : Nat} (h : isTrue (runF AF.fns.get 163 orc n f [] noG) = true) : ACall Tryz.prog f [] noG (fun r _ => r = .b true) := by
  obtain ⟨h', hx⟩ := isTrue_spec h
  rw [runF_eq] at hx
  exact runFn_ok fnsOk once_ok ho hx rfl
theorem law1_begun : ACall Tryz.prog 125 [] noG (fun r _ => r = .b true) := of_run orcA_ok AF.runA
theorem orcB_ok : RunOk Tryz.prog (known [125] (orcOf 46 202 223)) := known_ok orcA_ok fun f hf => by
  simp at hf; subst hf; exact law1_begun
theorem law6_begun : ACall Tryz.prog 39 [] noG (fun r _ => r = .b true) := of_run orcB_ok AF.runB
theorem orcC_ok : RunOk Tryz.prog (known [125, 39] (orcOf 46 202 223)) := known_ok orcA_ok fun f hf => by
  simp at hf
  rcases hf with rfl | rfl
  · exact law1_begun
  · exact law6_begun
end Go.Proofs.YtomcdckppplieaaGreat
/-
interrexlaw10.begun answers true.
-/
namespace Go.Proofs.YtomcdckppplieaaGreat
open Go.Eng
theorem law10_begun : ACall Tryz.prog 7 [] noG (fun r _ => r = .b true) := of_run orcC_ok AF.runD
end Go.Proofs.YtomcdckppplieaaGreat
