/-
The nodes that were seen, in a map; what is used on all nodes.
-/
import Derived.Test.YtllgfkpmblhbmaaGreatWiQ
import Derived.Test.YtllgfkpmblhbmaaGreatWiV
set_option linter.unusedVariables false
set_option linter.unusedSimpArgs false
namespace Go.Eng
open Go
/-- The nodes that were seen, as the program's map has them. -/
def seenS (S : List Str) : List (V × V) := S.map fun x => (V.s x, V.b true)
theorem ceM_seenS {ρ : Ren} {b : Lim} {F : Fz} : ∀ S : List Str, CeM ρ b F (seenS S) (seenS S)
  | [] => trivial
  | _ :: r => ⟨⟨rfl, .inl (.ren rfl trivial)⟩, ceM_seenS r⟩
theorem keyEq_t (x : Str) : keyEq (.s x) (.s x) = true := by simp [keyEq]
theorem keyEq_f {x y : Str} (h : x ≠ y) : keyEq (.s x) (.s y) = false := by simp [keyEq, h]
theorem mfindS_some : ∀ {S : List Str} {x : Str}, x ∈ S → mfind (seenS S) (.s x) = some (.b true)
  | y :: r, x, h => by
    simp only [seenS, List.map_cons, mfind]
    by_cases hxy : x = y
    · subst hxy
      rw [keyEq_t]; rfl
    · rw [keyEq_f hxy]
      have : x ∈ r := by
        cases h with
        | head => exact absurd rfl hxy
        | tail _ h => exact h
      exact mfindS_some this
theorem mfindS_none : ∀ {S : List Str} {x : Str}, x ∉ S → mfind (seenS S) (.s x) = none
  | [], x, _ => rfl
  | y :: r, x, h => by
    simp only [seenS, List.map_cons, mfind]
    have h1 : x ≠ y := by rintro rfl; exact h (.head _)
    rw [keyEq_f h1]
    exact mfindS_none fun hx => h (.tail _ hx)
theorem mputS_new : ∀ {S : List Str} {x : Str}, x ∉ S → mput (seenS S) (.s x) (.b true) = seenS (S ++ [x])
  | [], x, _ => rfl
  | y :: r, x, h => by
    simp only [seenS, List.map_cons, mput, List.cons_append]
    have h1 : x ≠ y := by rintro rfl; exact h (.head _)
    rw [keyEq_f h1]
    have := mputS_new (S := r) (x := x) fun hx => h (.tail _ hx)
    simp only [seenS] at this
    simp only [Bool.false_eq_true, if_false, this]
def inS (S : List Str) (q : PodD) : Bool := S.any fun x => q.node == x
theorem inS_new {S : List Str} {x : Str} (hx : x ∉ S) (hne : (x == ([] : Str)) = false) (l : List PodD) : sumR (l.filter (inS (S ++ [x]))) = addR (sumR (l.filter (inS S))) (sumR (onD ⟨[], l⟩ x)) ∧ (l.filter (inS (S ++ [x]))).length = (l.filter (inS S)).length + (onD ⟨[], l⟩ x).length := by
  unfold onD
  refine sumR_split fun q _ => ⟨?_, ?_⟩
  · simp [inS, hne]
  · cases h : q.node == x with
    | false => simp
    | true =>
      simp only [beq_iff_eq] at h
      have : inS S q = false := by
        unfold inS
        rw [List.any_eq_false]
        intro y hy
        rw [h]
        simp only [beq_iff_eq]
        rintro rfl
        exact hx hy
      rw [this]
      rfl
end Go.Eng
