/-
The lesser, the greater.
-/
import Derived.Test.YtcmknonnlnobnaaGreatEngD
set_option linter.unusedVariables false
set_option linter.unusedSimpArgs false
namespace Go.Eng
open Go
def minI (x y : Int) : Int := if y < x then y else x
def maxI (x y : Int) : Int := if x < y then y else x
theorem mn2 {x y z : Int} (h : (if y < x then y else x) = z) : mnmxFold false (.i .i64 x) [.i .i64 y] = some (.i .i64 z) := by simp [mnmxFold, h]
theorem mx2 {x y z : Int} (h : (if x < y then y else x) = z) : mnmxFold true (.i .i64 x) [.i .i64 y] = some (.i .i64 z) := by simp [mnmxFold, h]
end Go.Eng
/-
Arguments by their shapes.
-/
namespace Go.Eng
open Go
theorem args_nil {vs : List V} (h : ArgsIs [] vs) : vs = [] := by
 cases vs with
 | nil => rfl
 | cons _ _ => exact h.elim
theorem args_cons {a : ArgSh} {as : List ArgSh} {vs : List V} (h : ArgsIs (a :: as) vs) : ∃ v q, vs = v :: q ∧ a.Is v ∧ ArgsIs as q := by
 cases vs with
 | nil => exact h.elim
 | cons v q => exact ⟨v, q, rfl, h.1, h.2⟩
end Go.Eng
