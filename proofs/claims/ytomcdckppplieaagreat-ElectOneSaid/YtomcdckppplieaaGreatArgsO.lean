/-
Arguments that are rows of three numbers.
-/
import Derived.Test.YtomcdckppplieaaGreatArgsN
import Derived.Test.YtomcdckppplieaaGreatEl7
set_option linter.unusedVariables false
set_option linter.unusedSimpArgs false
namespace Go.Eng
open Go
theorem row_op (e : List V) (h : Sh.isL [.i .i64, .i .i64, .i .i64] e) : ∃ x : Int × Int × Int, e = opR x ∧ True := by
  obtain ⟨v, q, rfl, h1, h⟩ := isL_cons h
  obtain ⟨v2, q, rfl, h2, h⟩ := isL_cons h
  obtain ⟨v3, q, rfl, h3, h⟩ := isL_cons h
  obtain rfl := isL_nil h
  simp only [Sh.is] at h1 h2 h3
  obtain ⟨n, rfl, _⟩ := h1
  obtain ⟨n2, rfl, _⟩ := h2
  obtain ⟨n3, rfl, _⟩ := h3
  exact ⟨(n, n2, n3), rfl, trivial⟩
theorem arg_ops {v : V} (h : ArgSh.Is (false, [.sl [.i .i64, .i .i64, .i .i64]]) v) : ∃ l : List (Int × Int × Int), v = .sl none 3 (l.map opR) ∧ l.length ≤ 9223372036854775807 := by
  obtain ⟨l, h1, h2, _⟩ := is_sl row_op (show Sh.is (.sl [.i .i64, .i .i64, .i .i64]) v by simpa [ArgSh.Is, Sh.isL] using h)
  exact ⟨l, h1, h2⟩
end Go.Eng
