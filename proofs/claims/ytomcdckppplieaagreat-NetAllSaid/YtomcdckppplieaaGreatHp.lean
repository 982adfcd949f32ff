/-
A heap's object written twice.
-/
import Derived.Test.YtomcdckppplieaaGreatEngD
set_option linter.unusedVariables false
set_option linter.unusedSimpArgs false
namespace Go.Eng
open Go
theorem find_uu (n : Nat) (x y : Obj) : ∀ l, Heap.upd (Heap.upd l n x) n y = Heap.upd l n y
  | [] => rfl
  | (k, o) :: r => by
    by_cases h : k = n
    · subst h; simp [Heap.upd]
    · simp only [Heap.upd, if_neg h, find_uu n x y r]
theorem heap_ss (h : Heap) (n : Nat) (x y : Obj) : (h.set n x).set n y = h.set n y := by simp [Heap.set, find_uu]
theorem w64q {n m : Int} {k : Int → Prop} (e : n = m) (h1 : -9223372036854775808 ≤ m) (h2 : m ≤ 9223372036854775807) (hk : k m) : SWrap .i64 n k := by
  subst e; exact .w64 h1 h2 hk
end Go.Eng
