/-
Pods that can be copied: the bytes of what is handed in are bounded.
-/
import Derived.Test.YtllgfkpmblhbmaaGreatEngSz
import Derived.Test.YtllgfkpmblhbmaaGreatArgsD
import Derived.Test.YtllgfkpmblhbmaaGreatFitB5
namespace Go.Eng
open Go
theorem slM {α : Type} {R : α → List V} {M k : Nat} {l : List α} {row : List Sh} (h : Sh.isM M (.sl row) (.sl none k (l.map R))) : l.length * rowBy row ≤ M ∧ ∀ x ∈ l, Sh.isLM M row (R x) := by
  simp only [Sh.isM] at h
  obtain ⟨es, he, _, h1, h2⟩ := h
  cases he
  exact ⟨by simpa using h1, fun x hx => h2 _ (List.mem_map.2 ⟨x, hx, rfl⟩)⟩
theorem termsRoom_M {k : Nat} {l : List TermD} (h : Sh.isM reachBytes (.sl shTerm) (.sl none k (l.map termR))) : TermsRoom l := by
  obtain ⟨h1, h2⟩ := slM h
  have hr : reachBytes ≤ 140737488355328 := by decide
  refine ⟨Nat.le_trans h1 hr, fun t ht => ?_⟩
  have h3 := h2 t ht
  simp only [shTerm, termR, Sh.isLM] at h3
  exact Nat.le_trans (slM h3.2.2.1).1 hr
theorem pod_M {p : PodD} (h : ArgSh.IsM reachBytes (true, shPod) (.agg (podR p))) : PodRoom p ∧ p.tols.length * 40 + 40 ≤ 140737488355328 := by
  obtain ⟨row, h1, h2⟩ := h
  cases h1
  simp only [shPod, podR, Sh.isLM] at h2
  obtain ⟨_, _, _, _, _, _, p7, p8, p9, p10, _, p12, _, p14, _⟩ := h2
  have hr : reachBytes ≤ 140737488355328 := by decide
  have hr2 : reachBytes + 40 ≤ 140737488355328 := by decide
  exact ⟨⟨Nat.le_trans (slM p7).1 hr, Nat.le_trans (slM p8).1 hr, Nat.le_trans (slM p10).1 hr, termsRoom_M p9, termsRoom_M p12, termsRoom_M p14⟩, Nat.le_trans (Nat.add_le_add_right (slM p10).1 40) hr2⟩
theorem arg_resok {v : V} (h : ArgSh.Is (true, [.i .i64, .i .i64, .i .i64]) v) : ∃ r : ResD, v = .agg (resR r) ∧ r.ok := by
  obtain ⟨e, rfl, h⟩ := h
  obtain ⟨v1, q, rfl, h1, h⟩ := isL_cons h
  obtain ⟨v2, q, rfl, h2, h⟩ := isL_cons h
  obtain ⟨v3, q, rfl, h3, h⟩ := isL_cons h
  obtain rfl := isL_nil h
  obtain ⟨a, rfl, k1⟩ := is_i h1
  obtain ⟨b, rfl, k2⟩ := is_i h2
  obtain ⟨c, rfl, k3⟩ := is_i h3
  exact ⟨⟨a, b, c⟩, rfl, k1, k2, k3⟩
end Go.Eng
