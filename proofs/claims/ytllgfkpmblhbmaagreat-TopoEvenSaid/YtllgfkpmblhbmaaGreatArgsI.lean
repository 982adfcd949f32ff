/-
Arguments that are rows of numbers.
-/
import Derived.Test.YtllgfkpmblhbmaaGreatArgX
import Derived.Test.YtllgfkpmblhbmaaGreatFitA
namespace Go.Eng
open Go
theorem rows_of {α : Type} {R : α → List V} {sh : List Sh} {ok : α → Prop} (h : ∀ e, Sh.isL sh e → ∃ x, e = R x ∧ ok x) : ∀ {es : List (List V)}, (∀ e ∈ es, Sh.isL sh e) → ∃ l : List α, es = l.map R ∧ ∀ x ∈ l, ok x
  | [], _ => ⟨[], rfl, fun _ h => by cases h⟩
  | e :: r, he => by
    obtain ⟨x, rfl, hx⟩ := h e (he e (.head _))
    obtain ⟨l, rfl, hl⟩ := rows_of h fun e h => he e (.tail _ h)
    exact ⟨x :: l, rfl, fun y hy => by
      cases hy with
      | head => exact hx
      | tail _ hy => exact hl y hy⟩
theorem isL_cons {a : Sh} {r : List Sh} {e : List V} (h : Sh.isL (a :: r) e) : ∃ v q, e = v :: q ∧ a.is v ∧ Sh.isL r q := by
  cases e with
  | nil => simp [Sh.isL] at h
  | cons v q => exact ⟨v, q, rfl, by simpa [Sh.isL] using h⟩
theorem isL_nil {e : List V} (h : Sh.isL [] e) : e = [] := by
  cases e with
  | nil => rfl
  | cons v q => simp [Sh.isL] at h
theorem is_s {v : V} (h : Sh.is .s v) : ∃ l : Str, v = .s l ∧ LenOk l := by
  simp only [Sh.is] at h
  obtain ⟨l, rfl, hl⟩ := h
  exact ⟨l, rfl, hl⟩
theorem is_b {v : V} (h : Sh.is .b v) : ∃ b : Bool, v = .b b := by
  simpa only [Sh.is] using h
theorem is_i {v : V} (h : Sh.is (.i .i64) v) : ∃ n : Int, v = .i .i64 n ∧ in64 n := by
  simp only [Sh.is] at h
  obtain ⟨n, rfl, h1, h2⟩ := h
  exact ⟨n, rfl, by simpa [IntKind.min, IntKind.bits, IntKind.signed] using h1, by simpa [IntKind.max, IntKind.bits, IntKind.signed] using h2⟩
theorem is_sl {α : Type} {R : α → List V} {sh : List Sh} {ok : α → Prop} (h : ∀ e, Sh.isL sh e → ∃ x, e = R x ∧ ok x) {v : V} (hv : Sh.is (.sl sh) v) : ∃ l : List α, v = .sl none sh.length (l.map R) ∧ LenOk l ∧ ∀ x ∈ l, ok x := by
  simp only [Sh.is] at hv
  obtain ⟨es, rfl, h1, h2⟩ := hv
  obtain ⟨l, rfl, h3⟩ := rows_of h h2
  exact ⟨l, rfl, by simpa [LenOk] using h1, h3⟩
theorem row_str (e : List V) (h : Sh.isL [.s] e) : ∃ x : Str, e = strR x ∧ LenOk x := by
  obtain ⟨v, q, rfl, h1, h⟩ := isL_cons h
  obtain rfl := isL_nil h
  obtain ⟨l, rfl, hl⟩ := is_s h1
  exact ⟨l, rfl, hl⟩
theorem row_int (e : List V) (h : Sh.isL [.i .i64] e) : ∃ x : Int, e = intR x ∧ in64 x := by
  obtain ⟨v, q, rfl, h1, h⟩ := isL_cons h
  obtain rfl := isL_nil h
  obtain ⟨n, rfl, hn⟩ := is_i h1
  exact ⟨n, rfl, hn⟩
theorem arg_intl {v : V} (h : ArgSh.Is (false, [.sl [.i .i64]]) v) : ∃ l : List Int, v = .sl none 1 (l.map intR) ∧ LenOk l := by
  obtain ⟨l, h1, h2, _⟩ := is_sl row_int (show Sh.is (.sl [.i .i64]) v by simpa [ArgSh.Is, Sh.isL] using h)
  exact ⟨l, h1, h2⟩
end Go.Eng
