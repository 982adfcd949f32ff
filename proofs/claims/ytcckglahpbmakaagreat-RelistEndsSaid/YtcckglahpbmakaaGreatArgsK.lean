/-
Arguments that are entries, events, what is told to a cache: bounded in bytes.
-/
import Derived.Test.YtcckglahpbmakaaGreatEngSz
import Derived.Test.YtcckglahpbmakaaGreatArgsN
import Derived.Test.YtcckglahpbmakaaGreatCa1
set_option linter.unusedVariables false
set_option linter.unusedSimpArgs false
namespace Go.Eng
open Go
theorem is_slM {α : Type} {R : α → List V} {row : List Sh} {M : Nat} {ok : α → Prop} (h : ∀ e, Sh.isLM M row e → ∃ x, e = R x ∧ ok x) {v : V} (hv : Sh.isM M (.sl row) v) :
    ∃ l : List α, v = .sl none row.length (l.map R) ∧ l.length ≤ 9223372036854775807 ∧ l.length * rowBy row ≤ M ∧ ∀ x ∈ l, ok x := by
  simp only [Sh.isM] at hv
  obtain ⟨es, rfl, h1, h2, h3⟩ := hv
  have key : ∀ {es : List (List V)}, (∀ e ∈ es, Sh.isLM M row e) → ∃ l : List α, es = l.map R ∧ ∀ x ∈ l, ok x := by
    intro es
    induction es with
    | nil => exact fun _ => ⟨[], rfl, fun _ h => by cases h⟩
    | cons e r ih =>
      intro he
      obtain ⟨x, rfl, hx⟩ := h e (he e (.head _))
      obtain ⟨l, rfl, hl⟩ := ih fun e h => he e (.tail _ h)
      exact ⟨x :: l, rfl, fun y hy => by
        cases hy with
        | head => exact hx
        | tail _ hy => exact hl y hy⟩
  obtain ⟨l, rfl, hl⟩ := key h3
  exact ⟨l, rfl, by simpa using h1, by simpa using h2, hl⟩
theorem isLM_cons {M : Nat} {a : Sh} {r : List Sh} {e : List V} (h : Sh.isLM M (a :: r) e) : ∃ v q, e = v :: q ∧ a.isM M v ∧ Sh.isLM M r q := by
  cases e with
  | nil => simp [Sh.isLM] at h
  | cons v q => exact ⟨v, q, rfl, by simpa [Sh.isLM] using h⟩
theorem isLM_nil {M : Nat} {e : List V} (h : Sh.isLM M [] e) : e = [] := by
  cases e with
  | nil => rfl
  | cons v q => simp [Sh.isLM] at h
theorem rowM_byte {M : Nat} (e : List V) (h : Sh.isLM M [.i .u8] e) : ∃ x : Int, e = byR x ∧ True := by
  obtain ⟨v, q, rfl, h1, h⟩ := isLM_cons h
  obtain rfl := isLM_nil h
  simp only [Sh.isM] at h1
  obtain ⟨n, rfl, _⟩ := h1
  exact ⟨n, rfl, trivial⟩
theorem valM {v : V} (h : Sh.isM reachBytes (.sl [.i .u8]) v) : ∃ b : List Int, v = .sl none 1 (b.map byR) ∧ b.length * 1 ≤ 140737488355328 := by
  obtain ⟨l, rfl, _, h2, _⟩ := is_slM rowM_byte h
  have hr : reachBytes ≤ 140737488355328 := by decide
  exact ⟨l, rfl, Nat.le_trans h2 hr⟩
theorem strM {v : V} (h : Sh.isM reachBytes .s v) : ∃ s : Str, v = .s s ∧ s.length ≤ 9223372036854775807 := by
  simp only [Sh.isM] at h
  obtain ⟨l, rfl, h2⟩ := h
  have hr : reachBytes ≤ 9223372036854775807 := by decide
  exact ⟨l, rfl, Nat.le_trans h2 hr⟩
theorem intM {v : V} (h : Sh.isM reachBytes (.i .i64) v) : ∃ n : Int, v = .i .i64 n := by
  simp only [Sh.isM] at h
  obtain ⟨n, rfl, _⟩ := h
  exact ⟨n, rfl⟩
theorem boolM {v : V} (h : Sh.isM reachBytes .b v) : ∃ n : Bool, v = .b n := by
  simp only [Sh.isM] at h
  exact h
end Go.Eng
