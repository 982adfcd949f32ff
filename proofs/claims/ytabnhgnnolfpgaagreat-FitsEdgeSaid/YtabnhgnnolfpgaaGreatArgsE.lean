/-
Arguments that are amounts.
-/
import Derived.Test.YtabnhgnnolfpgaaGreatArgsC
namespace Go.Eng
open Go
theorem row_res (e : List V) (h : Sh.isL [.i .i64, .i .i64, .i .i64] e) : ∃ x : ResD, e = resR x ∧ True := by
  obtain ⟨v1, q, rfl, h1, h⟩ := isL_cons h
  obtain ⟨v2, q, rfl, h2, h⟩ := isL_cons h
  obtain ⟨v3, q, rfl, h3, h⟩ := isL_cons h
  obtain rfl := isL_nil h
  obtain ⟨a, rfl, _⟩ := is_i h1
  obtain ⟨b, rfl, _⟩ := is_i h2
  obtain ⟨c, rfl, _⟩ := is_i h3
  exact ⟨⟨a, b, c⟩, rfl, trivial⟩
theorem arg_ress {v : V} (h : ArgSh.Is (false, [.sl [.i .i64, .i .i64, .i .i64]]) v) : ∃ l : List ResD, v = .sl none 3 (l.map resR) ∧ LenOk l := by
  obtain ⟨l, h1, h2, _⟩ := is_sl row_res (show Sh.is (.sl [.i .i64, .i .i64, .i .i64]) v by simpa [ArgSh.Is, Sh.isL] using h)
  exact ⟨l, h1, h2⟩
theorem arg_res {v : V} (h : ArgSh.Is (true, [.i .i64, .i .i64, .i .i64]) v) : ∃ r : ResD, v = .agg (resR r) := by
  obtain ⟨e, rfl, h⟩ := h
  obtain ⟨x, rfl, _⟩ := row_res e h
  exact ⟨x, rfl⟩
end Go.Eng
