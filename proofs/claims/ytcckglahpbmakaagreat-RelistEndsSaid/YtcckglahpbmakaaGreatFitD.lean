/-
Names in order.
-/
import Derived.Test.YtcckglahpbmakaaGreatEngC
import Derived.Test.YtcckglahpbmakaaGreatFitA
set_option linter.unusedVariables false
set_option linter.unusedSimpArgs false
namespace Go.Eng
open Go
abbrev lessS (a b : Str) : Prop := Op.bytesLess a b = true
theorem less_irr : ∀ a : Str, Op.bytesLess a a = false
  | [] => rfl
  | a :: r => by
    have h : ¬ a < a := UInt8.lt_irrefl a
    simp only [Op.bytesLess, less_irr r, decide_eq_false h, Bool.and_false, Bool.or_false]
theorem less_tri : ∀ {a b : Str}, Op.bytesLess a b = false → a ≠ b → Op.bytesLess b a = true
  | [], [], _, h => absurd rfl h
  | [], _ :: _, h, _ => by cases h
  | _ :: _, [], _, _ => rfl
  | a :: r, b :: q, h, hne => by
    simp only [Op.bytesLess, Bool.or_eq_false_iff, decide_eq_false_iff_not, Bool.and_eq_false_imp, beq_iff_eq] at h
    simp only [Op.bytesLess, Bool.or_eq_true, decide_eq_true_eq, Bool.and_eq_true, beq_iff_eq]
    by_cases hab : a = b
    · subst hab
      exact .inr ⟨rfl, less_tri (h.2 rfl) fun e => hne (by rw [e])⟩
    · refine .inl ?_
      rcases UInt8.lt_or_lt_of_ne hab with hlt | hlt
      · exact absurd hlt h.1
      · exact hlt
theorem less_trans : ∀ {a b c : Str}, lessS a b → lessS b c → lessS a c
  | _, [], _, h, _ => by unfold lessS Op.bytesLess at h; cases h
  | _, _ :: _, [], _, h => by unfold lessS Op.bytesLess at h; cases h
  | [], _ :: _, _ :: _, _, _ => rfl
  | a :: r, b :: q, c :: s, h1, h2 => by
    simp only [lessS, Op.bytesLess, Bool.or_eq_true, decide_eq_true_eq, Bool.and_eq_true, beq_iff_eq] at h1 h2 ⊢
    rcases h1 with h1 | ⟨rfl, h1⟩
    · rcases h2 with h2 | ⟨rfl, h2⟩
      · exact .inl (UInt8.lt_trans h1 h2)
      · exact .inl h1
    · rcases h2 with h2 | ⟨rfl, h2⟩
      · exact .inl h2
      · exact .inr ⟨rfl, less_trans h1 h2⟩
theorem less_asymm {a b : Str} (h : lessS a b) : Op.bytesLess b a = false := by
  cases hc : Op.bytesLess b a with
  | false => rfl
  | true => have := less_trans h hc; rw [lessS, less_irr] at this; cases this
end Go.Eng
