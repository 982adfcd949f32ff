/-
What the closed functions answer.
-/
import Derived.Test.YtllgfkpmblhbmaaGreatRunA
import Derived.Test.YtllgfkpmblhbmaaGreatRunB
import Derived.Test.YtllgfkpmblhbmaaGreatAfOk
import Derived.Test.YtllgfkpmblhbmaaGreatSort1
import Derived.Test.YtllgfkpmblhbmaaGreatRunD
import Derived.Test.YtllgfkpmblhbmaaGreatRunD2
import Derived.Test.YtllgfkpmblhbmaaGreatRunE
import Derived.Test.YtllgfkpmblhbmaaGreatCmp1
namespace Go.Proofs.YtllgfkpmblhbmaaGreat
open Go.Eng

theorem orcA_ok : RunOk Tryz.prog (orcOf 316 354 373) := by
  intro f args h r h' hr K hK
  unfold orcOf at hr
  split at hr
  · rename_i hf
    have := Nat.eq_of_beq_eq_true hf
    subst this
    exact add_ok args h r h' hr K hK
  · split at hr
    · rename_i hf
      have := Nat.eq_of_beq_eq_true hf
      subst this
      exact sorted_ok args h r h' hr K hK
    · cases hr
theorem known_ok {cs : List Nat} {base : Orc} (hb : RunOk Tryz.prog base) (hc : ∀ f ∈ cs, ACall Tryz.prog f [] noG (fun r _ => r = .b true)) : RunOk Tryz.prog (known cs base) := by
  intro f args h r h' hr K hK
  unfold known at hr
  split at hr
  · rename_i hm
    split at hr
    · cases hr
      exact (hc f (memNat_iff.1 hm)).frame rfl fun v h' hv => by subst hv; exact ⟨rfl, hK⟩
    · cases hr
  · exact hb f args h r h' hr K hK
theorem of_run {orc : Orc} (ho : RunOk Tryz.prog orc) {n f : Nat} (h : isTrue (runF AF.fns.get 311 orc n f [] noG) = true) : ACall Tryz.prog f [] noG (fun r _ => r = .b true) := by
  obtain ⟨h', hx⟩ := isTrue_spec h
  rw [runF_eq] at hx
  exact runFn_ok fnsOk once_ok ho hx rfl
theorem law1_begun : ACall Tryz.prog 281 [] noG (fun r _ => r = .b true) := of_run orcA_ok AF.runA
theorem orcB_ok : RunOk Tryz.prog (known [281] (orcOf 316 354 373)) := known_ok orcA_ok fun f hf => by
  simp at hf; subst hf; exact law1_begun
theorem law6_begun : ACall Tryz.prog 148 [] noG (fun r _ => r = .b true) := of_run orcB_ok AF.runB
theorem orcC_ok : RunOk Tryz.prog (known [281, 148] (orcOf 316 354 373)) := known_ok orcA_ok fun f hf => by
  simp at hf
  rcases hf with rfl | rfl
  · exact law1_begun
  · exact law6_begun
end Go.Proofs.YtllgfkpmblhbmaaGreat
/-
interrexlaw10.begun answers true.
-/
namespace Go.Proofs.YtllgfkpmblhbmaaGreat
open Go.Eng
theorem law10_begun : ACall Tryz.prog 81 [] noG (fun r _ => r = .b true) := of_run orcC_ok AF.runD
end Go.Proofs.YtllgfkpmblhbmaaGreat
/-
interrexlaw18.begun answers true.
-/
namespace Go.Proofs.YtllgfkpmblhbmaaGreat
open Go.Eng
theorem orcD_ok : RunOk Tryz.prog (known [81] (orcOf 316 354 373)) := known_ok orcA_ok fun f hf => by
  simp at hf; subst hf; exact law10_begun
theorem law10_Begun : ACall Tryz.prog 32 [] noG (fun r _ => r = .b true) := of_run orcD_ok AF.runD2
theorem orcCmp_ok : RunOk Tryz.prog (orcC 96 (orcOf 316 354 373)) := by
  intro f args h r h' hr K hK
  unfold orcC at hr
  split at hr
  · rename_i hf
    have := Nat.eq_of_beq_eq_true hf
    subst this
    split at hr
    · cases hr
      exact cmpS_ok _ _ _ _ hK
    · cases hr
  · exact orcA_ok f args h r h' hr K hK
theorem orcE_ok : RunOk Tryz.prog (known [32] (orcC 96 (orcOf 316 354 373))) := known_ok orcCmp_ok fun f hf => by
  simp at hf; subst hf; exact law10_Begun
theorem law18_begun : ACall Tryz.prog 8 [] noG (fun r _ => r = .b true) := of_run orcE_ok AF.runE
end Go.Proofs.YtllgfkpmblhbmaaGreat
