/-
Arguments that are entries, events, what is told to a cache: bounded in bytes.
-/
import Derived.Test.YthhlbhmneabhiaaGreatEngSz
import Derived.Test.YthhlbhmneabhiaaGreatArgsN
import Derived.Test.YthhlbhmneabhiaaGreatCa1
set_option linter.unusedVariables false
set_option linter.unusedSimpArgs false
namespace Go.Eng
open Go
theorem is_slM {α : Type} {R : α → List V} {row : List Sh} {M : Nat} {ok : α → Prop} (h : ∀ e, Sh.isLM M row e → ∃ x, e = R x ∧ ok x) {v : V} (hv : Sh.isM M (.sl row) v) :
    ∃ l : List α, v = .sl none row.length (l.map R) ∧ l.length ≤ 9223372036854775807 ∧ l.length * rowBy row ≤ M ∧ ∀ x ∈ l, ok x := by
  simp only [Sh.isM] at hv
  obtain ⟨es, rfl, h1, h2, h3⟩ := hv
  have key : ∀ {es : List (List V)}, (∀ e ∈ es, Sh.isLM M row e) → ∃ l : List α, es = l.map R ∧ ∀ x ∈ l, ok x := by
    intro es
    induction es with
    | nil => exact fun _ => ⟨[], rfl, fun _ h => by cases h⟩
    | cons e r ih =>
      intro he
      obtain ⟨x, rfl, hx⟩ := h e (he e (.head _))
      obtain ⟨l, rfl, hl⟩ := ih fun e h => he e (.tail _ h)
      exact ⟨x :: l, rfl, fun y hy => by
        cases hy with
        | head => exact hx
        | tail _ hy => exact hl y hy⟩
  obtain ⟨l, rfl, hl⟩ := key h3
  exact ⟨l, rfl, by simpa using h1, by simpa using h2, hl⟩
theorem isLM_cons {M : Nat} {a : Sh} {r : List Sh} {e : List V} (h : Sh.isLM M (a :: r) e) : ∃ v q, e = v :: q ∧ a.isM M v ∧ Sh.isLM M r q := by
  cases e with
  | nil => simp [Sh.isLM] at h
  | cons v q => exact ⟨v, q, rfl, by simpa [Sh.isLM] using h⟩
theorem isLM_nil {M : Nat} {e : List V} (h : Sh.isLM M [] e) : e = [] := by
  cases e with
  | nil => rfl
  | cons v q => simp [Sh.isLM] at h
theorem rowM_byte {M : Nat} (e : List V) (h : Sh.isLM M [.i .u8] e) : ∃ x : Int, e = byR x ∧ True := by
  obtain ⟨v, q, rfl, h1, h⟩ := isLM_cons h
  obtain rfl := isLM_nil h
  simp only [Sh.isM] at h1
  obtain ⟨n, rfl, _⟩ := h1
  exact ⟨n, rfl, trivial⟩
theorem valM {v : V} (h : Sh.isM reachBytes (.sl [.i .u8]) v) : ∃ b : List Int, v = .sl none 1 (b.map byR) ∧ b.length * 1 ≤ 140737488355328 := by
  obtain ⟨l, rfl, _, h2, _⟩ := is_slM rowM_byte h
  have hr : reachBytes ≤ 140737488355328 := by decide
  exact ⟨l, rfl, Nat.le_trans h2 hr⟩
theorem strM {v : V} (h : Sh.isM reachBytes .s v) : ∃ s : Str, v = .s s ∧ s.length ≤ 9223372036854775807 := by
  simp only [Sh.isM] at h
  obtain ⟨l, rfl, h2⟩ := h
  have hr : reachBytes ≤ 9223372036854775807 := by decide
  exact ⟨l, rfl, Nat.le_trans h2 hr⟩
theorem intM {v : V} (h : Sh.isM reachBytes (.i .i64) v) : ∃ n : Int, v = .i .i64 n := by
  simp only [Sh.isM] at h
  obtain ⟨n, rfl, _⟩ := h
  exact ⟨n, rfl⟩
theorem boolM {v : V} (h : Sh.isM reachBytes .b v) : ∃ n : Bool, v = .b n := by
  simp only [Sh.isM] at h
  exact h
theorem rowM_en (e : List V) (h : Sh.isLM reachBytes [.s, .i .i64, .sl [.i .u8]] e) : ∃ x : EnD, e = enR x ∧ EnOk x := by
  obtain ⟨v, q, rfl, h1, h⟩ := isLM_cons h
  obtain ⟨v2, q, rfl, h2, h⟩ := isLM_cons h
  obtain ⟨v3, q, rfl, h3, h⟩ := isLM_cons h
  obtain rfl := isLM_nil h
  obtain ⟨s, rfl, hs⟩ := strM h1
  obtain ⟨n, rfl⟩ := intM h2
  obtain ⟨b, rfl, hb⟩ := valM h3
  exact ⟨⟨s, n, b⟩, rfl, hb, hs⟩
theorem rowM_ev (e : List V) (h : Sh.isLM reachBytes [.i .i64, .s, .sl [.i .u8], .b] e) : ∃ x : EvD, e = evR x ∧ EnOk x.e := by
  obtain ⟨v, q, rfl, h1, h⟩ := isLM_cons h
  obtain ⟨v2, q, rfl, h2, h⟩ := isLM_cons h
  obtain ⟨v3, q, rfl, h3, h⟩ := isLM_cons h
  obtain ⟨v4, q, rfl, h4, h⟩ := isLM_cons h
  obtain rfl := isLM_nil h
  obtain ⟨n, rfl⟩ := intM h1
  obtain ⟨s, rfl, hs⟩ := strM h2
  obtain ⟨b, rfl, hb⟩ := valM h3
  obtain ⟨g, rfl⟩ := boolM h4
  exact ⟨⟨⟨s, n, b⟩, g⟩, rfl, hb, hs⟩
theorem arg_strM {v : V} (h : ArgSh.IsM reachBytes (false, [.s]) v) : ∃ s : Str, v = .s s := by
  obtain ⟨w, q, e1, h1, h2⟩ := isLM_cons h
  cases e1
  obtain ⟨s, rfl, _⟩ := strM h1
  exact ⟨s, rfl⟩
theorem arg_ensM {v : V} (h : ArgSh.IsM reachBytes (false, [.sl [.s, .i .i64, .sl [.i .u8]]]) v) : ∃ l : List EnD, v = .sl none 3 (l.map enR) ∧ l.length ≤ 9223372036854775807 ∧ ∀ e ∈ l, EnOk e := by
  obtain ⟨w, q, e1, h1, h2⟩ := isLM_cons h
  cases e1
  obtain ⟨l, rfl, h3, _, h4⟩ := is_slM rowM_en h1
  exact ⟨l, rfl, h3, h4⟩
theorem arg_evsM {v : V} (h : ArgSh.IsM reachBytes (false, [.sl [.i .i64, .s, .sl [.i .u8], .b]]) v) : ∃ l : List EvD, v = .sl none 4 (l.map evR) ∧ l.length ≤ 9223372036854775807 ∧ ∀ x ∈ l, EnOk x.e := by
  obtain ⟨w, q, e1, h1, h2⟩ := isLM_cons h
  cases e1
  obtain ⟨l, rfl, h3, _, h4⟩ := is_slM rowM_ev h1
  exact ⟨l, rfl, h3, h4⟩
end Go.Eng
