/-
Arguments that are rows of a net's steps.
-/
import Derived.Test.YtomcdckppplieaaGreatArgsN
import Derived.Test.YtomcdckppplieaaGreatNaC
set_option linter.unusedVariables false
set_option linter.unusedSimpArgs false
namespace Go.Eng
open Go
theorem row_nop (e : List V) (h : Sh.isL [.i .i64, .i .i64, .b, .b, .i .i64, .sl [.i .u8]] e) : ∃ x : NopD, e = nopR x ∧ True := by
  obtain ⟨v, q, rfl, h1, h⟩ := isL_cons h
  obtain ⟨v2, q, rfl, h2, h⟩ := isL_cons h
  obtain ⟨v3, q, rfl, h3, h⟩ := isL_cons h
  obtain ⟨v4, q, rfl, h4, h⟩ := isL_cons h
  obtain ⟨v5, q, rfl, h5, h⟩ := isL_cons h
  obtain ⟨v6, q, rfl, h6, h⟩ := isL_cons h
  obtain rfl := isL_nil h
  obtain ⟨l, rfl, _, _⟩ := is_sl row_byte h6
  simp only [Sh.is] at h1 h2 h3 h4 h5
  obtain ⟨n, rfl, _⟩ := h1
  obtain ⟨n2, rfl, _⟩ := h2
  obtain ⟨n3, rfl⟩ := h3
  obtain ⟨n4, rfl⟩ := h4
  obtain ⟨n5, rfl, _⟩ := h5
  exact ⟨⟨n, n2, n3, ⟨n5, l, n4⟩⟩, rfl, trivial⟩
theorem arg_nops {v : V} (h : ArgSh.Is (false, [.sl [.i .i64, .i .i64, .b, .b, .i .i64, .sl [.i .u8]]]) v) : ∃ l : List NopD, v = .sl none 6 (l.map nopR) ∧ l.length ≤ 9223372036854775807 := by
  obtain ⟨l, h1, h2, _⟩ := is_sl row_nop (show Sh.is (.sl [.i .i64, .i .i64, .b, .b, .i .i64, .sl [.i .u8]]) v by simpa [ArgSh.Is, Sh.isL] using h)
  exact ⟨l, h1, h2⟩
end Go.Eng
