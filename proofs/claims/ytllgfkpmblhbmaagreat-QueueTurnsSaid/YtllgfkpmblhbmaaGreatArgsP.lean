/-
Arguments that are rows of pods.
-/
import Derived.Test.YtllgfkpmblhbmaaGreatArgsU
namespace Go.Eng
open Go
theorem arg_pods {v : V} (h : ArgSh.Is (false, [.sl shPod]) v) : ∃ l : List PodD, v = .sl none 16 (l.map podR) ∧ LenOk l ∧ ∀ p ∈ l, p.fit ∧ p.sok := by
  obtain ⟨l, h1, h2, h3⟩ := is_sl row_pod (show Sh.is (.sl shPod) v by simpa [ArgSh.Is, Sh.isL] using h)
  exact ⟨l, h1, h2, h3⟩
theorem pods_M {l : List PodD} (h : ArgSh.IsM reachBytes (false, [.sl shPod]) (.sl none 16 (l.map podR))) : ∀ p ∈ l, PodRoom p := by
  intro p hp
  have h0 : Sh.isM reachBytes (.sl shPod) (.sl none 16 (l.map podR)) := by
    have h1 : Sh.isLM reachBytes [.sl shPod] [.sl none 16 (l.map podR)] := h
    simp only [Sh.isLM] at h1
    exact h1.1
  exact (pod_M (p := p) ⟨_, rfl, (slM h0).2 p hp⟩).1
end Go.Eng
