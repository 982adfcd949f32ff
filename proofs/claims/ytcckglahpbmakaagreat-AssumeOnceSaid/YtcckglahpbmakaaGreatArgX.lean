/-
The lesser, the greater.
-/
import Derived.Test.YtcckglahpbmakaaGreatEngD
set_option linter.unusedVariables false
set_option linter.unusedSimpArgs false
namespace Go.Eng
open Go
theorem mn2 {x y z : Int} (h : (if y < x then y else x) = z) : mnmxFold false (.i .i64 x) [.i .i64 y] = some (.i .i64 z) := by simp [mnmxFold, h]
theorem mx2 {x y z : Int} (h : (if x < y then y else x) = z) : mnmxFold true (.i .i64 x) [.i .i64 y] = some (.i .i64 z) := by simp [mnmxFold, h]
end Go.Eng
/-
Arguments by their shapes.
-/
namespace Go.Eng
open Go
theorem isL_one {a : Sh} {e : List V} (h : Sh.isL [a] e) : ∃ v, e = [v] ∧ a.is v := by
  cases e with
  | nil => simp [Sh.isL] at h
  | cons v r =>
    cases r with
    | nil => exact ⟨v, rfl, by simpa [Sh.isL] using h⟩
    | cons _ _ => simp [Sh.isL] at h
theorem isL_i64 {e : List V} (h : Sh.isL [.i .i64] e) : ∃ n, e = [.i .i64 n] ∧ -9223372036854775808 ≤ n ∧ n ≤ 9223372036854775807 := by
  obtain ⟨v, rfl, h2⟩ := isL_one h
  simp only [Sh.is] at h2
  obtain ⟨n, rfl, h1, h3⟩ := h2
  exact ⟨n, rfl, by simpa [IntKind.min, IntKind.bits, IntKind.signed] using h1, by simpa [IntKind.max, IntKind.bits, IntKind.signed] using h3⟩
theorem args_nil {vs : List V} (h : ArgsIs [] vs) : vs = [] := by
  cases vs with
  | nil => rfl
  | cons _ _ => exact h.elim
theorem args_cons {a : ArgSh} {as : List ArgSh} {vs : List V} (h : ArgsIs (a :: as) vs) : ∃ v q, vs = v :: q ∧ a.Is v ∧ ArgsIs as q := by
  cases vs with
  | nil => exact h.elim
  | cons v q => exact ⟨v, q, rfl, h.1, h.2⟩
theorem arg_i64 {v : V} (h : ArgSh.Is (false, [.i .i64]) v) : ∃ n, v = .i .i64 n ∧ -9223372036854775808 ≤ n ∧ n ≤ 9223372036854775807 := by
  obtain ⟨n, h1, h2⟩ := isL_i64 h
  exact ⟨n, by simpa using h1, h2⟩
end Go.Eng
