/-
Rows of integers, clocks: what the operations on them come to.
-/
import Derived.Test.YtabnhgnnolfpgaaGreatAfT
import Derived.Test.YtabnhgnnolfpgaaGreatEngD
set_option linter.unusedVariables false
set_option linter.unusedSimpArgs false
namespace Go.Eng
open Go

def arrI (n : Nat) (f : Nat → Int) : List (List V) := (List.range n).map fun j => [V.i .i64 (f j)]
theorem arrI_len (n : Nat) (f : Nat → Int) : (arrI n f).length = n := by simp [arrI]
theorem arrI_get {n : Nat} {f : Nat → Int} {i j : Nat} (he : i = j) (h : j < n) : (arrI n f)[i]? = some [V.i .i64 (f j)] := by
  subst he
  simp [arrI, h]
theorem arrI_congr {n : Nat} {f g : Nat → Int} (h : ∀ j, j < n → f j = g j) : arrI n f = arrI n g := by
  unfold arrI
  exact List.map_congr_left fun j hj => by rw [h j (List.mem_range.1 hj)]
theorem arrI_take {n : Nat} {f : Nat → Int} (q : Nat) (h : q ≤ n) : (arrI n f).take q = arrI q f := by
  unfold arrI
  rw [← List.map_take, List.take_range, Nat.min_eq_left h]
theorem arrI_set {n : Nat} {f : Nat → Int} {i j : Nat} (he : i = j) (x : Int) : (arrI n f).set i [V.i .i64 x] = arrI n fun q => if q = j then x else f q := by
  subst he
  unfold arrI
  apply List.ext_getElem?
  intro q
  rw [List.getElem?_set]
  by_cases h1 : i = q
  · subst h1
    by_cases h2 : i < n <;> simp [h2]
  · rw [if_neg h1]
    have h1' : ¬ q = i := fun e => h1 e.symm
    by_cases h2 : q < n <;> simp [h2, h1']

def rowI (f : Nat → Int) : List V := (List.range 64).map fun j => V.i .i64 (f j)
def clkC (k m : Nat) (lo hi : Nat → Int) : List V := .ms (.g k) 1 0 m :: (rowI lo ++ rowI hi)
theorem rowI_len (f : Nat → Int) : (rowI f).length = 64 := by simp [rowI]
theorem clkC_len (k m : Nat) (lo hi : Nat → Int) : (clkC k m lo hi).length = 129 := by simp [clkC, rowI_len]
theorem rowI_get {f : Nat → Int} {j : Nat} (h : j < 64) : (rowI f)[j]? = some (V.i .i64 (f j)) := by simp [rowI, h]
theorem clkC_lo {k m : Nat} {lo hi : Nat → Int} {o j : Nat} (he : o = 1 + j) (h : j < 64) : ldCells (clkC k m lo hi) o none = some (.i .i64 (lo j)) := by
  subst he
  simp only [ldCells, clkC]
  rw [Nat.add_comm 1 j, List.getElem?_cons_succ, List.getElem?_append_left (by rw [rowI_len]; exact h), rowI_get h]
theorem clkC_hi {k m : Nat} {lo hi : Nat → Int} {o j : Nat} (he : o = 65 + j) (h : j < 64) : ldCells (clkC k m lo hi) o none = some (.i .i64 (hi j)) := by
  subst he
  simp only [ldCells, clkC]
  rw [show 65 + j = (64 + j) + 1 by omega, List.getElem?_cons_succ, List.getElem?_append_right (by rw [rowI_len]; omega), rowI_len, show 64 + j - 64 = j by omega, rowI_get h]
theorem rowI_set {f : Nat → Int} {j : Nat} (x : Int) : (rowI f).set j (V.i .i64 x) = rowI fun q => if q = j then x else f q := by
  unfold rowI
  apply List.ext_getElem?
  intro q
  rw [List.getElem?_set]
  by_cases h1 : j = q
  · subst h1
    by_cases h2 : j < 64 <;> simp [h2]
  · rw [if_neg h1]
    have h1' : ¬ q = j := fun e => h1 e.symm
    by_cases h2 : q < 64 <;> simp [h2, h1']
theorem clkC_setlo {k m : Nat} {lo hi : Nat → Int} {o j : Nat} (he : o = 1 + j) (h : j < 64) (x : Int) : stCells (clkC k m lo hi) o [.i .i64 x] = clkC k m (fun q => if q = j then x else lo q) hi := by
  subst he
  simp only [stCells, clkC]
  rw [Nat.add_comm 1 j, List.set_cons_succ, List.set_append_left _ _ (by rw [rowI_len]; exact h), rowI_set]
theorem clkC_sethi {k m : Nat} {lo hi : Nat → Int} {o j : Nat} (he : o = 65 + j) (h : j < 64) (x : Int) : stCells (clkC k m lo hi) o [.i .i64 x] = clkC k m lo (fun q => if q = j then x else hi q) := by
  subst he
  simp only [stCells, clkC]
  rw [show 65 + j = (64 + j) + 1 by omega, List.set_cons_succ, List.set_append_right _ _ (by rw [rowI_len]; omega), rowI_len, show 64 + j - 64 = j by omega, rowI_set]
theorem clkC_fits {k m : Nat} {lo hi : Nat → Int} {o : Nat} {x : V} (h : o < 129) : stFits (clkC k m lo hi) o [x] = true := by
  simp only [stFits, clkC_len, decide_eq_true_eq, List.length_cons, List.length_nil]
  omega
theorem clkC_congr {k m : Nat} {lo hi lo' hi' : Nat → Int} (h1 : ∀ j, j < 64 → lo j = lo' j) (h2 : ∀ j, j < 64 → hi j = hi' j) : clkC k m lo hi = clkC k m lo' hi' := by
  have e : ∀ f g : Nat → Int, (∀ j, j < 64 → f j = g j) → rowI f = rowI g := fun f g h => List.map_congr_left fun j hj => by rw [h j (List.mem_range.1 hj)]
  simp only [clkC, e lo lo' h1, e hi hi' h2]

/-- What a tick needs. -/
def tickMay (n m : Nat) (now a : Nat → Int) : Prop := ∀ i, i < min n m → 0 ≤ a i ∧ a i ≤ 1000000 ∧ now i + a i ≤ 1125899906842624
def tickNow (n : Nat) (now a : Nat → Int) (i : Nat) : Int := if i < n then now i + a i else now i
def minI (x y : Int) : Int := if y < x then y else x
def maxI (x y : Int) : Int := if x < y then y else x
def tickLo (m : Nat) (now lo : Nat → Int) (p : Nat) : Int := if p / 8 < m ∧ p % 8 < m then minI (lo p) (now (p / 8) - now (p % 8)) else lo p
def tickHi (m : Nat) (now hi : Nat → Int) (p : Nat) : Int := if p / 8 < m ∧ p % 8 < m then maxI (hi p) (now (p / 8) - now (p % 8)) else hi p
/-- .. so far: row i, up to column j. -/
def someLo (m : Nat) (now lo : Nat → Int) (i j p : Nat) : Int := if p % 8 < m ∧ (p / 8 < i ∨ p / 8 = i ∧ p % 8 < j) then minI (lo p) (now (p / 8) - now (p % 8)) else lo p
def someHi (m : Nat) (now hi : Nat → Int) (i j p : Nat) : Int := if p % 8 < m ∧ (p / 8 < i ∨ p / 8 = i ∧ p % 8 < j) then maxI (hi p) (now (p / 8) - now (p % 8)) else hi p
end Go.Eng
namespace Go.Eng
theorem mn2 {x y z : Int} (h : (if y < x then y else x) = z) : mnmxFold false (.i .i64 x) [.i .i64 y] = some (.i .i64 z) := by simp [mnmxFold, h]
theorem mx2 {x y z : Int} (h : (if x < y then y else x) = z) : mnmxFold true (.i .i64 x) [.i .i64 y] = some (.i .i64 z) := by simp [mnmxFold, h]
end Go.Eng
namespace Go.Eng
theorem someLo_step {m i j : Nat} {N lo : Nat → Int} (_hi : i < m) (hj : j < m) (hm : m ≤ 8) (q : Nat) : (if q = i * 8 + j then minI (someLo m N lo i j (i * 8 + j)) (N i - N j) else someLo m N lo i j q) = someLo m N lo i (j + 1) q := by
  unfold someLo
  by_cases hq : q = i * 8 + j
  · subst hq
    have e1 : (i * 8 + j) / 8 = i := by omega
    have e2 : (i * 8 + j) % 8 = j := by omega
    rw [if_pos rfl, e1, e2, if_neg (by omega), if_pos (by omega)]
  · rw [if_neg hq]
    by_cases hc : q % 8 < m ∧ (q / 8 < i ∨ q / 8 = i ∧ q % 8 < j)
    · rw [if_pos hc, if_pos (by omega)]
    · rw [if_neg hc, if_neg (by omega)]
theorem someHi_step {m i j : Nat} {N hi : Nat → Int} (_hi : i < m) (hj : j < m) (hm : m ≤ 8) (q : Nat) : (if q = i * 8 + j then maxI (someHi m N hi i j (i * 8 + j)) (N i - N j) else someHi m N hi i j q) = someHi m N hi i (j + 1) q := by
  unfold someHi
  by_cases hq : q = i * 8 + j
  · subst hq
    have e1 : (i * 8 + j) / 8 = i := by omega
    have e2 : (i * 8 + j) % 8 = j := by omega
    rw [if_pos rfl, e1, e2, if_neg (by omega), if_pos (by omega)]
  · rw [if_neg hq]
    by_cases hc : q % 8 < m ∧ (q / 8 < i ∨ q / 8 = i ∧ q % 8 < j)
    · rw [if_pos hc, if_pos (by omega)]
    · rw [if_neg hc, if_neg (by omega)]
theorem someLo_row {m i : Nat} {N lo : Nat → Int} (q : Nat) : someLo m N lo i m q = someLo m N lo (i + 1) 0 q := by
  unfold someLo
  by_cases hc : q % 8 < m ∧ (q / 8 < i ∨ q / 8 = i ∧ q % 8 < m)
  · rw [if_pos hc, if_pos (by omega)]
  · rw [if_neg hc, if_neg (by omega)]
theorem someHi_row {m i : Nat} {N hi : Nat → Int} (q : Nat) : someHi m N hi i m q = someHi m N hi (i + 1) 0 q := by
  unfold someHi
  by_cases hc : q % 8 < m ∧ (q / 8 < i ∨ q / 8 = i ∧ q % 8 < m)
  · rw [if_pos hc, if_pos (by omega)]
  · rw [if_neg hc, if_neg (by omega)]
theorem someLo_end {m : Nat} {N lo : Nat → Int} (q : Nat) : someLo m N lo m 0 q = tickLo m N lo q := by
  unfold someLo tickLo
  by_cases hc : q / 8 < m ∧ q % 8 < m
  · rw [if_pos hc, if_pos (by omega)]
  · rw [if_neg hc, if_neg (by omega)]
theorem someHi_end {m : Nat} {N hi : Nat → Int} (q : Nat) : someHi m N hi m 0 q = tickHi m N hi q := by
  unfold someHi tickHi
  by_cases hc : q / 8 < m ∧ q % 8 < m
  · rw [if_pos hc, if_pos (by omega)]
  · rw [if_neg hc, if_neg (by omega)]
end Go.Eng
/-
Arguments by their shapes.
-/
namespace Go.Eng
open Go
theorem isL_one {a : Sh} {e : List V} (h : Sh.isL [a] e) : ∃ v, e = [v] ∧ a.is v := by
  cases e with
  | nil => simp [Sh.isL] at h
  | cons v r =>
    cases r with
    | nil => exact ⟨v, rfl, by simpa [Sh.isL] using h⟩
    | cons _ _ => simp [Sh.isL] at h
theorem isL_i64 {e : List V} (h : Sh.isL [.i .i64] e) : ∃ n, e = [.i .i64 n] ∧ -9223372036854775808 ≤ n ∧ n ≤ 9223372036854775807 := by
  obtain ⟨v, rfl, h2⟩ := isL_one h
  simp only [Sh.is] at h2
  obtain ⟨n, rfl, h1, h3⟩ := h2
  exact ⟨n, rfl, by simpa [IntKind.min, IntKind.bits, IntKind.signed] using h1, by simpa [IntKind.max, IntKind.bits, IntKind.signed] using h3⟩
theorem rows_i64 {es : List (List V)} (h : ∀ e ∈ es, Sh.isL [.i .i64] e) : ∃ f : Nat → Int, es = arrI es.length f ∧ ∀ j, j < es.length → -9223372036854775808 ≤ f j ∧ f j ≤ 9223372036854775807 := by
  have hx : ∀ j, j < es.length → ∃ n : Int, es[j]? = some [V.i .i64 n] ∧ -9223372036854775808 ≤ n ∧ n ≤ 9223372036854775807 := fun j hj => by
    obtain ⟨n, h1, h2⟩ := isL_i64 (h es[j] (List.getElem_mem hj))
    exact ⟨n, by rw [List.getElem?_eq_getElem hj, h1], h2⟩
  obtain ⟨f, hf⟩ := Go.Deep.choose_lt hx
  refine ⟨f, ?_, fun j hj => (hf j hj).2⟩
  apply List.ext_getElem?
  intro j
  by_cases hj : j < es.length
  · rw [(hf j hj).1, arrI_get rfl hj]
  · rw [List.getElem?_eq_none (by omega), List.getElem?_eq_none (by rw [arrI_len]; omega)]
theorem args_nil {vs : List V} (h : ArgsIs [] vs) : vs = [] := by
  cases vs with
  | nil => rfl
  | cons _ _ => exact h.elim
theorem args_cons {a : ArgSh} {as : List ArgSh} {vs : List V} (h : ArgsIs (a :: as) vs) : ∃ v q, vs = v :: q ∧ a.Is v ∧ ArgsIs as q := by
  cases vs with
  | nil => exact h.elim
  | cons v q => exact ⟨v, q, rfl, h.1, h.2⟩
theorem arg_i64 {v : V} (h : ArgSh.Is (false, [.i .i64]) v) : ∃ n, v = .i .i64 n ∧ -9223372036854775808 ≤ n ∧ n ≤ 9223372036854775807 := by
  obtain ⟨n, h1, h2⟩ := isL_i64 h
  exact ⟨n, by simpa using h1, h2⟩
theorem arg_sl {r : List Sh} {v : V} (h : ArgSh.Is (false, [.sl r]) v) : ∃ es, v = .sl none r.length es ∧ es.length ≤ 9223372036854775807 ∧ ∀ e ∈ es, Sh.isL r e := by
  simpa [ArgSh.Is, Sh.isL, Sh.is] using h
theorem arg_ints {v : V} (h : ArgSh.Is (false, [.sl [.i .i64]]) v) : ∃ n f, v = .sl none 1 (arrI n f) ∧ n ≤ 9223372036854775807 ∧ ∀ j, j < n → -9223372036854775808 ≤ f j ∧ f j ≤ 9223372036854775807 := by
  obtain ⟨es, rfl, h1, h2⟩ := arg_sl h
  obtain ⟨f, h3, h4⟩ := rows_i64 h2
  refine ⟨es.length, f, ?_, h1, h4⟩
  rw [← h3]
  rfl
end Go.Eng
