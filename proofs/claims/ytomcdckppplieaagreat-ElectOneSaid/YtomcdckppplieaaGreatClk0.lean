/-
Rows of integers, clocks: what the operations on them come to.
-/
import Derived.Test.YtomcdckppplieaaGreatAfT
import Derived.Test.YtomcdckppplieaaGreatEngD
import Derived.Test.YtomcdckppplieaaGreatArgX
set_option linter.unusedVariables false
set_option linter.unusedSimpArgs false
namespace Go.Eng
open Go

def arrI (n : Nat) (f : Nat → Int) : List (List V) := (List.range n).map fun j => [V.i .i64 (f j)]
theorem arrI_len (n : Nat) (f : Nat → Int) : (arrI n f).length = n := by simp [arrI]
theorem arrI_get {n : Nat} {f : Nat → Int} {i j : Nat} (he : i = j) (h : j < n) : (arrI n f)[i]? = some [V.i .i64 (f j)] := by
  subst he
  simp [arrI, h]
theorem arrI_congr {n : Nat} {f g : Nat → Int} (h : ∀ j, j < n → f j = g j) : arrI n f = arrI n g := by
  unfold arrI
  exact List.map_congr_left fun j hj => by rw [h j (List.mem_range.1 hj)]
theorem arrI_take {n : Nat} {f : Nat → Int} (q : Nat) (h : q ≤ n) : (arrI n f).take q = arrI q f := by
  unfold arrI
  rw [← List.map_take, List.take_range, Nat.min_eq_left h]
theorem arrI_set {n : Nat} {f : Nat → Int} {i j : Nat} (he : i = j) (x : Int) : (arrI n f).set i [V.i .i64 x] = arrI n fun q => if q = j then x else f q := by
  subst he
  unfold arrI
  apply List.ext_getElem?
  intro q
  rw [List.getElem?_set]
  by_cases h1 : i = q
  · subst h1
    by_cases h2 : i < n <;> simp [h2]
  · rw [if_neg h1]
    have h1' : ¬ q = i := fun e => h1 e.symm
    by_cases h2 : q < n <;> simp [h2, h1']

def rowI (f : Nat → Int) : List V := (List.range 64).map fun j => V.i .i64 (f j)
def clkC (k m : Nat) (lo hi : Nat → Int) : List V := .ms (.g k) 1 0 m :: (rowI lo ++ rowI hi)
theorem rowI_len (f : Nat → Int) : (rowI f).length = 64 := by simp [rowI]
theorem clkC_len (k m : Nat) (lo hi : Nat → Int) : (clkC k m lo hi).length = 129 := by simp [clkC, rowI_len]
theorem rowI_get {f : Nat → Int} {j : Nat} (h : j < 64) : (rowI f)[j]? = some (V.i .i64 (f j)) := by simp [rowI, h]
theorem clkC_lo {k m : Nat} {lo hi : Nat → Int} {o j : Nat} (he : o = 1 + j) (h : j < 64) : ldCells (clkC k m lo hi) o none = some (.i .i64 (lo j)) := by
  subst he
  simp only [ldCells, clkC]
  rw [Nat.add_comm 1 j, List.getElem?_cons_succ, List.getElem?_append_left (by rw [rowI_len]; exact h), rowI_get h]
theorem clkC_hi {k m : Nat} {lo hi : Nat → Int} {o j : Nat} (he : o = 65 + j) (h : j < 64) : ldCells (clkC k m lo hi) o none = some (.i .i64 (hi j)) := by
  subst he
  simp only [ldCells, clkC]
  rw [show 65 + j = (64 + j) + 1 by omega, List.getElem?_cons_succ, List.getElem?_append_right (by rw [rowI_len]; omega), rowI_len, show 64 + j - 64 = j by omega, rowI_get h]
theorem rowI_set {f : Nat → Int} {j : Nat} (x : Int) : (rowI f).set j (V.i .i64 x) = rowI fun q => if q = j then x else f q := by
  unfold rowI
  apply List.ext_getElem?
  intro q
  rw [List.getElem?_set]
  by_cases h1 : j = q
  · subst h1
    by_cases h2 : j < 64 <;> simp [h2]
  · rw [if_neg h1]
    have h1' : ¬ q = j := fun e => h1 e.symm
    by_cases h2 : q < 64 <;> simp [h2, h1']
theorem clkC_setlo {k m : Nat} {lo hi : Nat → Int} {o j : Nat} (he : o = 1 + j) (h : j < 64) (x : Int) : stCells (clkC k m lo hi) o [.i .i64 x] = clkC k m (fun q => if q = j then x else lo q) hi := by
  subst he
  simp only [stCells, clkC]
  rw [Nat.add_comm 1 j, List.set_cons_succ, List.set_append_left _ _ (by rw [rowI_len]; exact h), rowI_set]
theorem clkC_sethi {k m : Nat} {lo hi : Nat → Int} {o j : Nat} (he : o = 65 + j) (h : j < 64) (x : Int) : stCells (clkC k m lo hi) o [.i .i64 x] = clkC k m lo (fun q => if q = j then x else hi q) := by
  subst he
  simp only [stCells, clkC]
  rw [show 65 + j = (64 + j) + 1 by omega, List.set_cons_succ, List.set_append_right _ _ (by rw [rowI_len]; omega), rowI_len, show 64 + j - 64 = j by omega, rowI_set]
theorem clkC_fits {k m : Nat} {lo hi : Nat → Int} {o : Nat} {x : V} (h : o < 129) : stFits (clkC k m lo hi) o [x] = true := by
  simp only [stFits, clkC_len, decide_eq_true_eq, List.length_cons, List.length_nil]
  omega
theorem clkC_congr {k m : Nat} {lo hi lo' hi' : Nat → Int} (h1 : ∀ j, j < 64 → lo j = lo' j) (h2 : ∀ j, j < 64 → hi j = hi' j) : clkC k m lo hi = clkC k m lo' hi' := by
  have e : ∀ f g : Nat → Int, (∀ j, j < 64 → f j = g j) → rowI f = rowI g := fun f g h => List.map_congr_left fun j hj => by rw [h j (List.mem_range.1 hj)]
  simp only [clkC, e lo lo' h1, e hi hi' h2]

/-- What a tick needs. -/
def tickMay (n m : Nat) (now a : Nat → Int) : Prop := ∀ i, i < min n m → 0 ≤ a i ∧ a i ≤ 1000000 ∧ now i + a i ≤ 1125899906842624
def tickNow (n : Nat) (now a : Nat → Int) (i : Nat) : Int := if i < n then now i + a i else now i
def tickLo (m : Nat) (now lo : Nat → Int) (p : Nat) : Int := if p / 8 < m ∧ p % 8 < m then minI (lo p) (now (p / 8) - now (p % 8)) else lo p
def tickHi (m : Nat) (now hi : Nat → Int) (p : Nat) : Int := if p / 8 < m ∧ p % 8 < m then maxI (hi p) (now (p / 8) - now (p % 8)) else hi p
/-- .. so far: row i, up to column j. -/
def someLo (m : Nat) (now lo : Nat → Int) (i j p : Nat) : Int := if p % 8 < m ∧ (p / 8 < i ∨ p / 8 = i ∧ p % 8 < j) then minI (lo p) (now (p / 8) - now (p % 8)) else lo p
def someHi (m : Nat) (now hi : Nat → Int) (i j p : Nat) : Int := if p % 8 < m ∧ (p / 8 < i ∨ p / 8 = i ∧ p % 8 < j) then maxI (hi p) (now (p / 8) - now (p % 8)) else hi p
end Go.Eng
namespace Go.Eng
end Go.Eng
namespace Go.Eng
theorem someLo_step {m i j : Nat} {N lo : Nat → Int} (_hi : i < m) (hj : j < m) (hm : m ≤ 8) (q : Nat) : (if q = i * 8 + j then minI (someLo m N lo i j (i * 8 + j)) (N i - N j) else someLo m N lo i j q) = someLo m N lo i (j + 1) q := by
  unfold someLo
  by_cases hq : q = i * 8 + j
  · subst hq
    have e1 : (i * 8 + j) / 8 = i := by omega
    have e2 : (i * 8 + j) % 8 = j := by omega
    rw [if_pos rfl, e1, e2, if_neg (by omega), if_pos (by omega)]
  · rw [if_neg hq]
    by_cases hc : q % 8 < m ∧ (q / 8 < i ∨ q / 8 = i ∧ q % 8 < j)
    · rw [if_pos hc, if_pos (by omega)]
    · rw [if_neg hc, if_neg (by omega)]
theorem someHi_step {m i j : Nat} {N hi : Nat → Int} (_hi : i < m) (hj : j < m) (hm : m ≤ 8) (q : Nat) : (if q = i * 8 + j then maxI (someHi m N hi i j (i * 8 + j)) (N i - N j) else someHi m N hi i j q) = someHi m N hi i (j + 1) q := by
  unfold someHi
  by_cases hq : q = i * 8 + j
  · subst hq
    have e1 : (i * 8 + j) / 8 = i := by omega
    have e2 : (i * 8 + j) % 8 = j := by omega
    rw [if_pos rfl, e1, e2, if_neg (by omega), if_pos (by omega)]
  · rw [if_neg hq]
    by_cases hc : q % 8 < m ∧ (q / 8 < i ∨ q / 8 = i ∧ q % 8 < j)
    · rw [if_pos hc, if_pos (by omega)]
    · rw [if_neg hc, if_neg (by omega)]
theorem someLo_row {m i : Nat} {N lo : Nat → Int} (q : Nat) : someLo m N lo i m q = someLo m N lo (i + 1) 0 q := by
  unfold someLo
  by_cases hc : q % 8 < m ∧ (q / 8 < i ∨ q / 8 = i ∧ q % 8 < m)
  · rw [if_pos hc, if_pos (by omega)]
  · rw [if_neg hc, if_neg (by omega)]
theorem someHi_row {m i : Nat} {N hi : Nat → Int} (q : Nat) : someHi m N hi i m q = someHi m N hi (i + 1) 0 q := by
  unfold someHi
  by_cases hc : q % 8 < m ∧ (q / 8 < i ∨ q / 8 = i ∧ q % 8 < m)
  · rw [if_pos hc, if_pos (by omega)]
  · rw [if_neg hc, if_neg (by omega)]
theorem someLo_end {m : Nat} {N lo : Nat → Int} (q : Nat) : someLo m N lo m 0 q = tickLo m N lo q := by
  unfold someLo tickLo
  by_cases hc : q / 8 < m ∧ q % 8 < m
  · rw [if_pos hc, if_pos (by omega)]
  · rw [if_neg hc, if_neg (by omega)]
theorem someHi_end {m : Nat} {N hi : Nat → Int} (q : Nat) : someHi m N hi m 0 q = tickHi m N hi q := by
  unfold someHi tickHi
  by_cases hc : q / 8 < m ∧ q % 8 < m
  · rw [if_pos hc, if_pos (by omega)]
  · rw [if_neg hc, if_neg (by omega)]
end Go.Eng
