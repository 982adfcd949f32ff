/-
What the closed functions answer.
-/
import Derived.Test.YtcckglahpbmakaaGreatRunA
import Derived.Test.YtcckglahpbmakaaGreatRunB
import Derived.Test.YtcckglahpbmakaaGreatAfOk
import Derived.Test.YtcckglahpbmakaaGreatSort1
import Derived.Test.YtcckglahpbmakaaGreatRunD
set_option linter.unusedVariables false
set_option linter.unusedSimpArgs false
namespace Go.Proofs.YtcckglahpbmakaaGreat
open Go.Eng

theorem orcA_ok : RunOk Tryz.prog (orcOf 53 57 104) := by
  intro f args h r h' hr K hK
  unfold orcOf at hr
  split at hr
  · rename_i hf
    have := Nat.eq_of_beq_eq_true hf
    subst this
    exact add_ok args h r h' hr K hK
  · split at hr
    · rename_i hf
      have := Nat.eq_of_beq_eq_true hf
      subst this
      exact sorted_ok args h r h' hr K hK
    · cases hr
theorem known_ok {cs : List Nat} {base : Orc} (hb : RunOk Tryz.prog base) (hc : ∀ f ∈ cs, ACall Tryz.prog f [] noG (fun r _ => r = .b true)) : RunOk Tryz.prog (known cs base) := by
  intro f args h r h' hr K hK
  unfold known at hr
  split at hr
  · rename_i hm
    split at hr
    · cases hr
      exact (hc f (memNat_iff.1 hm)).frame rfl fun v h' hv => by subst hv; exact ⟨rfl, hK⟩
    · cases hr
  · exact hb f args h r h' hr K hK
theorem of_run {orc : Orc} (ho : RunOk Tryz.prog orc) {n f : Nat} (h : isTrue (runF AF.fns.get 161 orc n f [] noG) = true) : ACall Tryz.prog f [] noG (fun r _ => r = .b true) := by
  obtain ⟨h', hx⟩ := isTrue_spec h
  rw [runF_eq] at hx
  exact runFn_ok fnsOk once_ok ho hx rfl
theorem law1_begun : ACall Tryz.prog 146 [] noG (fun r _ => r = .b true) := of_run orcA_ok AF.runA
theorem orcB_ok : RunOk Tryz.prog (known [146] (orcOf 53 57 104)) := known_ok orcA_ok fun f hf => by
  simp at hf; subst hf; exact law1_begun
theorem law6_begun : ACall Tryz.prog 44 [] noG (fun r _ => r = .b true) := of_run orcB_ok AF.runB
theorem orcC_ok : RunOk Tryz.prog (known [146, 44] (orcOf 53 57 104)) := known_ok orcA_ok fun f hf => by
  simp at hf
  rcases hf with rfl | rfl
  · exact law1_begun
  · exact law6_begun
end Go.Proofs.YtcckglahpbmakaaGreat
/-
interrexlaw10.begun answers true.
-/
namespace Go.Proofs.YtcckglahpbmakaaGreat
open Go.Eng
theorem law10_begun : ACall Tryz.prog 8 [] noG (fun r _ => r = .b true) := of_run orcC_ok AF.runD
end Go.Proofs.YtcckglahpbmakaaGreat
