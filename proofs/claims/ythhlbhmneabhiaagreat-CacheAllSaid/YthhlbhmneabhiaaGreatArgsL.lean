/-
Arguments that are steps of a cache.
-/
import Derived.Test.YthhlbhmneabhiaaGreatArgsK
import Derived.Test.YthhlbhmneabhiaaGreatCa6
set_option linter.unusedVariables false
set_option linter.unusedSimpArgs false
namespace Go.Eng
open Go
theorem rowM_cop (e : List V) (h : Sh.isLM reachBytes [.i .i64, .i .i64, .i .i64, .sl [.s, .i .i64, .sl [.i .u8]], .sl [.i .i64, .s, .sl [.i .u8], .b]] e) : ∃ x : CopD, e = copR x ∧ CopOk x := by
  obtain ⟨v, q, rfl, h1, h⟩ := isLM_cons h
  obtain ⟨v2, q, rfl, h2, h⟩ := isLM_cons h
  obtain ⟨v3, q, rfl, h3, h⟩ := isLM_cons h
  obtain ⟨v4, q, rfl, h4, h⟩ := isLM_cons h
  obtain ⟨v5, q, rfl, h5, h⟩ := isLM_cons h
  obtain rfl := isLM_nil h
  obtain ⟨n1, rfl⟩ := intM h1
  obtain ⟨n2, rfl⟩ := intM h2
  obtain ⟨n3, rfl⟩ := intM h3
  obtain ⟨es, rfl, _, _, he⟩ := is_slM rowM_en h4
  obtain ⟨xs, rfl, _, _, hx⟩ := is_slM rowM_ev h5
  exact ⟨⟨n1, n2, n3, es, xs⟩, rfl, he, hx⟩
theorem arg_copsM {v : V} (h : ArgSh.IsM reachBytes (false, [.sl [.i .i64, .i .i64, .i .i64, .sl [.s, .i .i64, .sl [.i .u8]], .sl [.i .i64, .s, .sl [.i .u8], .b]]]) v) : ∃ l : List CopD, v = .sl none 5 (l.map copR) ∧ ∀ x ∈ l, CopOk x := by
  obtain ⟨w, q, e1, h1, h2⟩ := isLM_cons h
  cases e1
  obtain ⟨l, rfl, _, _, h4⟩ := is_slM rowM_cop h1
  exact ⟨l, rfl, h4⟩
end Go.Eng
