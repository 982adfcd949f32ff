/-
Arguments that are rows of bytes, of numbers, of bools.
-/
import Derived.Test.YthhlbhmneabhiaaGreatArgX
import Derived.Test.YthhlbhmneabhiaaGreatNOa
set_option linter.unusedVariables false
set_option linter.unusedSimpArgs false
namespace Go.Eng
open Go
def boolR (b : Bool) : List V := [.b b]
def bytesV (l : List Int) : List V := [.sl none 1 (l.map byR)]
theorem rows_of {α : Type} {R : α → List V} {sh : List Sh} {ok : α → Prop} (h : ∀ e, Sh.isL sh e → ∃ x, e = R x ∧ ok x) : ∀ {es : List (List V)}, (∀ e ∈ es, Sh.isL sh e) → ∃ l : List α, es = l.map R ∧ ∀ x ∈ l, ok x
  | [], _ => ⟨[], rfl, fun _ h => by cases h⟩
  | e :: r, he => by
    obtain ⟨x, rfl, hx⟩ := h e (he e (.head _))
    obtain ⟨l, rfl, hl⟩ := rows_of h fun e h => he e (.tail _ h)
    exact ⟨x :: l, rfl, fun y hy => by
      cases hy with
      | head => exact hx
      | tail _ hy => exact hl y hy⟩
theorem isL_cons {a : Sh} {r : List Sh} {e : List V} (h : Sh.isL (a :: r) e) : ∃ v q, e = v :: q ∧ a.is v ∧ Sh.isL r q := by
  cases e with
  | nil => simp [Sh.isL] at h
  | cons v q => exact ⟨v, q, rfl, by simpa [Sh.isL] using h⟩
theorem isL_nil {e : List V} (h : Sh.isL [] e) : e = [] := by
  cases e with
  | nil => rfl
  | cons v q => simp [Sh.isL] at h
theorem is_sl {α : Type} {R : α → List V} {sh : List Sh} {ok : α → Prop} (h : ∀ e, Sh.isL sh e → ∃ x, e = R x ∧ ok x) {v : V} (hv : Sh.is (.sl sh) v) : ∃ l : List α, v = .sl none sh.length (l.map R) ∧ l.length ≤ 9223372036854775807 ∧ ∀ x ∈ l, ok x := by
  simp only [Sh.is] at hv
  obtain ⟨es, rfl, h1, h2⟩ := hv
  obtain ⟨l, rfl, h3⟩ := rows_of h h2
  exact ⟨l, rfl, by simpa using h1, h3⟩
theorem row_byte (e : List V) (h : Sh.isL [.i .u8] e) : ∃ x : Int, e = byR x ∧ True := by
  obtain ⟨v, q, rfl, h1, h⟩ := isL_cons h
  obtain rfl := isL_nil h
  simp only [Sh.is] at h1
  obtain ⟨n, rfl, _⟩ := h1
  exact ⟨n, rfl, trivial⟩
theorem row_bool (e : List V) (h : Sh.isL [.b] e) : ∃ x : Bool, e = boolR x ∧ True := by
  obtain ⟨v, q, rfl, h1, h⟩ := isL_cons h
  obtain rfl := isL_nil h
  simp only [Sh.is] at h1
  obtain ⟨n, rfl⟩ := h1
  exact ⟨n, rfl, trivial⟩
theorem row_bytes (e : List V) (h : Sh.isL [.sl [.i .u8]] e) : ∃ x : List Int, e = bytesV x ∧ True := by
  obtain ⟨v, q, rfl, h1, h⟩ := isL_cons h
  obtain rfl := isL_nil h
  obtain ⟨l, rfl, _, _⟩ := is_sl row_byte h1
  exact ⟨l, rfl, trivial⟩
def numR (n : Int) : List V := [.i .i64 n]
theorem row_num (e : List V) (h : Sh.isL [.i .i64] e) : ∃ x : Int, e = numR x ∧ True := by
  obtain ⟨v, q, rfl, h1, h⟩ := isL_cons h
  obtain rfl := isL_nil h
  simp only [Sh.is] at h1
  obtain ⟨n, rfl, _⟩ := h1
  exact ⟨n, rfl, trivial⟩
theorem arg_bytess {v : V} (h : ArgSh.Is (false, [.sl [.sl [.i .u8]]]) v) : ∃ l : List (List Int), v = .sl none 1 (l.map bytesV) ∧ l.length ≤ 9223372036854775807 := by
  obtain ⟨l, h1, h2, _⟩ := is_sl row_bytes (show Sh.is (.sl [.sl [.i .u8]]) v by simpa [ArgSh.Is, Sh.isL] using h)
  exact ⟨l, h1, h2⟩
theorem arg_bools {v : V} (h : ArgSh.Is (false, [.sl [.b]]) v) : ∃ l : List Bool, v = .sl none 1 (l.map boolR) ∧ l.length ≤ 9223372036854775807 := by
  obtain ⟨l, h1, h2, _⟩ := is_sl row_bool (show Sh.is (.sl [.b]) v by simpa [ArgSh.Is, Sh.isL] using h)
  exact ⟨l, h1, h2⟩
theorem arg_nums {v : V} (h : ArgSh.Is (false, [.sl [.i .i64]]) v) : ∃ l : List Int, v = .sl none 1 (l.map numR) ∧ l.length ≤ 9223372036854775807 := by
  obtain ⟨l, h1, h2, _⟩ := is_sl row_num (show Sh.is (.sl [.i .i64]) v by simpa [ArgSh.Is, Sh.isL] using h)
  exact ⟨l, h1, h2⟩
end Go.Eng
