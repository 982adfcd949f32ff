/-
Arguments by their shapes.
-/
import Derived.Test.YtfobkjdmohaakaaGreatEngLaw
import Derived.Test.YtfobkjdmohaakaaGreatClk0
namespace Go.Eng
open Go
theorem isL_one {a : Sh} {e : List V} (h : Sh.isL [a] e) : ∃ v, e = [v] ∧ a.is v := by
  cases e with
  | nil => simp [Sh.isL] at h
  | cons v r =>
    cases r with
    | nil => exact ⟨v, rfl, by simpa [Sh.isL] using h⟩
    | cons _ _ => simp [Sh.isL] at h
theorem isL_i64 {e : List V} (h : Sh.isL [.i .i64] e) : ∃ n, e = [.i .i64 n] ∧ -9223372036854775808 ≤ n ∧ n ≤ 9223372036854775807 := by
  obtain ⟨v, rfl, h2⟩ := isL_one h
  simp only [Sh.is] at h2
  obtain ⟨n, rfl, h1, h3⟩ := h2
  exact ⟨n, rfl, by simpa [IntKind.min, IntKind.bits, IntKind.signed] using h1, by simpa [IntKind.max, IntKind.bits, IntKind.signed] using h3⟩
theorem rows_i64 {es : List (List V)} (h : ∀ e ∈ es, Sh.isL [.i .i64] e) : ∃ f : Nat → Int, es = arrI es.length f ∧ ∀ j, j < es.length → -9223372036854775808 ≤ f j ∧ f j ≤ 9223372036854775807 := by
  have hx : ∀ j, j < es.length → ∃ n : Int, es[j]? = some [V.i .i64 n] ∧ -9223372036854775808 ≤ n ∧ n ≤ 9223372036854775807 := fun j hj => by
    obtain ⟨n, h1, h2⟩ := isL_i64 (h es[j] (List.getElem_mem hj))
    exact ⟨n, by rw [List.getElem?_eq_getElem hj, h1], h2⟩
  obtain ⟨f, hf⟩ := Go.Deep.choose_lt hx
  refine ⟨f, ?_, fun j hj => (hf j hj).2⟩
  apply List.ext_getElem?
  intro j
  by_cases hj : j < es.length
  · rw [(hf j hj).1, arrI_get rfl hj]
  · rw [List.getElem?_eq_none (by omega), List.getElem?_eq_none (by rw [arrI_len]; omega)]
theorem args_nil {vs : List V} (h : ArgsIs [] vs) : vs = [] := by
  cases vs with
  | nil => rfl
  | cons _ _ => exact h.elim
theorem args_cons {a : ArgSh} {as : List ArgSh} {vs : List V} (h : ArgsIs (a :: as) vs) : ∃ v q, vs = v :: q ∧ a.Is v ∧ ArgsIs as q := by
  cases vs with
  | nil => exact h.elim
  | cons v q => exact ⟨v, q, rfl, h.1, h.2⟩
theorem arg_i64 {v : V} (h : ArgSh.Is (false, [.i .i64]) v) : ∃ n, v = .i .i64 n ∧ -9223372036854775808 ≤ n ∧ n ≤ 9223372036854775807 := by
  obtain ⟨n, h1, h2⟩ := isL_i64 h
  exact ⟨n, by simpa using h1, h2⟩
theorem arg_sl {r : List Sh} {v : V} (h : ArgSh.Is (false, [.sl r]) v) : ∃ es, v = .sl none r.length es ∧ es.length ≤ 9223372036854775807 ∧ ∀ e ∈ es, Sh.isL r e := by
  simpa [ArgSh.Is, Sh.isL, Sh.is] using h
theorem arg_ints {v : V} (h : ArgSh.Is (false, [.sl [.i .i64]]) v) : ∃ n f, v = .sl none 1 (arrI n f) ∧ n ≤ 9223372036854775807 ∧ ∀ j, j < n → -9223372036854775808 ≤ f j ∧ f j ≤ 9223372036854775807 := by
  obtain ⟨es, rfl, h1, h2⟩ := arg_sl h
  obtain ⟨f, h3, h4⟩ := rows_i64 h2
  refine ⟨es.length, f, ?_, h1, h4⟩
  rw [← h3]
  rfl
end Go.Eng
