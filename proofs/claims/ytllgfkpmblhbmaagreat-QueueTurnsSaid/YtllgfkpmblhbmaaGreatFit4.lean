/-
Equality of rows, of pods, of nodes.
-/
import Derived.Test.YtllgfkpmblhbmaaGreatFitB
set_option linter.unusedVariables false
set_option linter.unusedSimpArgs false
namespace Go.Eng
open Go
/-- The first ones are the same. -/
def SameYet {α : Type} (l m : List α) (i : Nat) : Prop := ∀ (j : Nat), j < i → l[j]? = m[j]?
theorem SameYet.zero {α : Type} {l m : List α} : SameYet l m 0 := fun _ h => absurd h (Nat.not_lt_zero _)
theorem SameYet.succ {α : Type} {l m : List α} {i : Nat} {x y : α} (h : SameYet l m i) (hx : l[i]? = some x) (hy : m[i]? = some y) (e : x = y) : SameYet l m (i + 1) := fun j hj => by
  by_cases hji : j < i
  · exact h j hji
  · obtain rfl : j = i := by omega
    rw [hx, hy, e]
theorem SameYet.all {α : Type} {l m : List α} {i : Nat} (h : SameYet l m i) (hl : l.length = m.length) (hi : l.length ≤ i) : l = m := by
  apply List.ext_getElem?
  intro j
  by_cases hj : j < i
  · exact h j hj
  · rw [List.getElem?_eq_none (by omega), List.getElem?_eq_none (by omega)]
theorem ne_at {α : Type} {l m : List α} {i : Nat} {x y : α} (hx : l[i]? = some x) (hy : m[i]? = some y) (h : x ≠ y) : l ≠ m := by
  rintro rfl
  rw [hx] at hy
  cases hy
  exact h rfl
def eqTerm1 (x y : TermD) : Bool := x.key == y.key && (decide (x.kind = y.kind) && decide (x.vals = y.vals))
section
variable {P : Program} (hG : FnsOk P AF.fns.get)
include hG
theorem eq_int (l m : List Int) (hl : LenOk l) (hm : LenOk m) : Pure P 194 [.sl none 1 (l.map intR), .sl none 1 (m.map intR)] (· = .b (decide (l = m))) := by
  have h1 : (l.map intR).length = l.length := List.length_map _
  have h2 : (m.map intR).length = m.length := List.length_map _
  unfold LenOk at hl hm
  refine pure_fn (hG _ AF.f194 rfl) rfl ?_
  ((conv => whnf); repeat ((first | refine yf rfl ?_ | refine yt rfl ?_ | refine yo rfl ?_ | refine yc rfl ?_ | refine ys rfl ?_ | refine ye rfl ?_ | refine yn rfl ?_ | refine zw ?_ | refine zdt ?_ | refine zdf ?_ | refine znt ?_ | refine znf ?_ | refine zcd ?_ | refine zci ?_ | refine zc3 ?_) <;> (conv => whnf)))
  refine SIf.mk (fun hne => ?_) (fun hne => ?_)
  · ((conv => whnf); repeat ((first | refine yf rfl ?_ | refine yt rfl ?_ | refine yo rfl ?_ | refine yc rfl ?_ | refine ys rfl ?_ | refine ye rfl ?_ | refine yn rfl ?_ | refine zw ?_ | refine zdt ?_ | refine zdf ?_ | refine znt ?_ | refine znf ?_ | refine zcd ?_ | refine zci ?_ | refine zc3 ?_) <;> (conv => whnf)))
    refine pure_free rfl ?_
    rw [decide_eq_false]
    rintro rfl
    simp at hne
  have hne : l.length = m.length := by simp [h1, h2] at hne; omega
  ((conv => whnf); repeat ((first | refine yf rfl ?_ | refine yt rfl ?_ | refine yo rfl ?_ | refine yc rfl ?_ | refine ys rfl ?_ | refine ye rfl ?_ | refine yn rfl ?_ | refine zw ?_ | refine zdt ?_ | refine zdf ?_ | refine znt ?_ | refine znf ?_ | refine zcd ?_ | refine zci ?_ | refine zc3 ?_) <;> (conv => whnf)))
  refine SLoopZ.by (fun q fr st => ∃ i : Nat, i ≤ l.length ∧ q = l.length - i ∧ SameYet l m i ∧ fr = [(13, .i .i64 i), (12, .i .i64 (l.map intR).length), (1, .sl none 1 (m.map intR)), (0, .sl none 1 (l.map intR))] ∧ st = gst noG)
    l.length ⟨_, _, ?_, 0, Nat.zero_le _, rfl, SameYet.zero, rfl, rfl⟩ ?_
  · exact tL0
  rintro q fr st ⟨i, hi, rfl, hok, rfl, rfl⟩ R hR
  (conv => whnf)
  refine SIf.ds (fun hlt => ?_) (fun hge => ?_)
  · have hi' : i < l.length := by omega
    have he := List.getElem?_eq_getElem hi'
    have hf := List.getElem?_eq_getElem (by omega : i < m.length)
    generalize l[i] = e at he
    generalize m[i]'(by omega) = f at hf
    ((conv => whnf); repeat ((first | refine SEx.of (map_get' (by simp) he) ?_ | refine SEx.of (map_get' (by simp) hf) ?_ | refine yf rfl ?_ | refine yt rfl ?_ | refine yo rfl ?_ | refine yc rfl ?_ | refine ys rfl ?_ | refine ye rfl ?_ | refine yn rfl ?_ | refine zw ?_ | refine zdt ?_ | refine zdf ?_ | refine znt ?_ | refine znf ?_ | refine zcd ?_ | refine zci ?_ | refine zc3 ?_) <;> (conv => whnf)))
    refine SIf.mk (fun hp => ?_) (fun hp => ?_)
    · ((conv => whnf); repeat ((first | refine yf rfl ?_ | refine yt rfl ?_ | refine yo rfl ?_ | refine yc rfl ?_ | refine ys rfl ?_ | refine ye rfl ?_ | refine yn rfl ?_ | refine zw ?_ | refine zdt ?_ | refine zdf ?_ | refine znt ?_ | refine znf ?_ | refine zcd ?_ | refine zci ?_ | refine zc3 ?_) <;> (conv => whnf)))
      refine pure_free rfl ?_
      rw [decide_eq_false (ne_at he hf (by rintro rfl; simp at hp))]
    · ((conv => whnf); repeat ((first | refine yf rfl ?_ | refine yt rfl ?_ | refine yo rfl ?_ | refine yc rfl ?_ | refine ys rfl ?_ | refine ye rfl ?_ | refine yn rfl ?_ | refine zw ?_ | refine zdt ?_ | refine zdf ?_ | refine znt ?_ | refine znf ?_ | refine zcd ?_ | refine zci ?_ | refine zc3 ?_) <;> (conv => whnf)))
      refine hR (l.length - (i + 1)) _ _ (by omega) ⟨_, _, ?_, i + 1, by omega, rfl, hok.succ he hf (by first | (simpa using hp) | (cases e; cases f; simp at hp; simp [hp])), rfl, rfl⟩
      exact tL0
  · ((conv => whnf); repeat ((first | refine yf rfl ?_ | refine yt rfl ?_ | refine yo rfl ?_ | refine yc rfl ?_ | refine ys rfl ?_ | refine ye rfl ?_ | refine yn rfl ?_ | refine zw ?_ | refine zdt ?_ | refine zdf ?_ | refine znt ?_ | refine znf ?_ | refine zcd ?_ | refine zci ?_ | refine zc3 ?_) <;> (conv => whnf)))
    refine pure_free rfl ?_
    rw [decide_eq_true (hok.all hne (by omega))]
theorem eq_pair (l m : List PairD) (hl : LenOk l) (hm : LenOk m) : Pure P 192 [.sl none 2 (l.map pairR), .sl none 2 (m.map pairR)] (· = .b (decide (l = m))) := by
  have h1 : (l.map pairR).length = l.length := List.length_map _
  have h2 : (m.map pairR).length = m.length := List.length_map _
  unfold LenOk at hl hm
  refine pure_fn (hG _ AF.f192 rfl) rfl ?_
  ((conv => whnf); repeat ((first | refine yf rfl ?_ | refine yt rfl ?_ | refine yo rfl ?_ | refine yc rfl ?_ | refine ys rfl ?_ | refine ye rfl ?_ | refine yn rfl ?_ | refine zw ?_ | refine zdt ?_ | refine zdf ?_ | refine znt ?_ | refine znf ?_ | refine zcd ?_ | refine zci ?_ | refine zc3 ?_) <;> (conv => whnf)))
  refine SIf.mk (fun hne => ?_) (fun hne => ?_)
  · ((conv => whnf); repeat ((first | refine yf rfl ?_ | refine yt rfl ?_ | refine yo rfl ?_ | refine yc rfl ?_ | refine ys rfl ?_ | refine ye rfl ?_ | refine yn rfl ?_ | refine zw ?_ | refine zdt ?_ | refine zdf ?_ | refine znt ?_ | refine znf ?_ | refine zcd ?_ | refine zci ?_ | refine zc3 ?_) <;> (conv => whnf)))
    refine pure_free rfl ?_
    rw [decide_eq_false]
    rintro rfl
    simp at hne
  have hne : l.length = m.length := by simp [h1, h2] at hne; omega
  ((conv => whnf); repeat ((first | refine yf rfl ?_ | refine yt rfl ?_ | refine yo rfl ?_ | refine yc rfl ?_ | refine ys rfl ?_ | refine ye rfl ?_ | refine yn rfl ?_ | refine zw ?_ | refine zdt ?_ | refine zdf ?_ | refine znt ?_ | refine znf ?_ | refine zcd ?_ | refine zci ?_ | refine zc3 ?_) <;> (conv => whnf)))
  refine SLoopZ.by (fun q fr st => ∃ i : Nat, i ≤ l.length ∧ q = l.length - i ∧ SameYet l m i ∧ fr = [(13, .i .i64 i), (12, .i .i64 (l.map pairR).length), (1, .sl none 2 (m.map pairR)), (0, .sl none 2 (l.map pairR))] ∧ st = gst noG)
    l.length ⟨_, _, ?_, 0, Nat.zero_le _, rfl, SameYet.zero, rfl, rfl⟩ ?_
  · exact tL0
  rintro q fr st ⟨i, hi, rfl, hok, rfl, rfl⟩ R hR
  (conv => whnf)
  refine SIf.ds (fun hlt => ?_) (fun hge => ?_)
  · have hi' : i < l.length := by omega
    have he := List.getElem?_eq_getElem hi'
    have hf := List.getElem?_eq_getElem (by omega : i < m.length)
    generalize l[i] = e at he
    generalize m[i]'(by omega) = f at hf
    ((conv => whnf); repeat ((first | refine SEx.of (map_get' (by simp) he) ?_ | refine SEx.of (map_get' (by simp) hf) ?_ | refine yf rfl ?_ | refine yt rfl ?_ | refine yo rfl ?_ | refine yc rfl ?_ | refine ys rfl ?_ | refine ye rfl ?_ | refine yn rfl ?_ | refine zw ?_ | refine zdt ?_ | refine zdf ?_ | refine znt ?_ | refine znf ?_ | refine zcd ?_ | refine zci ?_ | refine zc3 ?_) <;> (conv => whnf)))
    refine SIf.mk (fun hp => ?_) (fun hp => ?_)
    · ((conv => whnf); repeat ((first | refine yf rfl ?_ | refine yt rfl ?_ | refine yo rfl ?_ | refine yc rfl ?_ | refine ys rfl ?_ | refine ye rfl ?_ | refine yn rfl ?_ | refine zw ?_ | refine zdt ?_ | refine zdf ?_ | refine znt ?_ | refine znf ?_ | refine zcd ?_ | refine zci ?_ | refine zc3 ?_) <;> (conv => whnf)))
      refine pure_free rfl ?_
      rw [decide_eq_false (ne_at he hf (by rintro rfl; simp at hp))]
    · ((conv => whnf); repeat ((first | refine yf rfl ?_ | refine yt rfl ?_ | refine yo rfl ?_ | refine yc rfl ?_ | refine ys rfl ?_ | refine ye rfl ?_ | refine yn rfl ?_ | refine zw ?_ | refine zdt ?_ | refine zdf ?_ | refine znt ?_ | refine znf ?_ | refine zcd ?_ | refine zci ?_ | refine zc3 ?_) <;> (conv => whnf)))
      refine hR (l.length - (i + 1)) _ _ (by omega) ⟨_, _, ?_, i + 1, by omega, rfl, hok.succ he hf (by first | (simpa using hp) | (cases e; cases f; simp at hp; simp [hp])), rfl, rfl⟩
      exact tL0
  · ((conv => whnf); repeat ((first | refine yf rfl ?_ | refine yt rfl ?_ | refine yo rfl ?_ | refine yc rfl ?_ | refine ys rfl ?_ | refine ye rfl ?_ | refine yn rfl ?_ | refine zw ?_ | refine zdt ?_ | refine zdf ?_ | refine znt ?_ | refine znf ?_ | refine zcd ?_ | refine zci ?_ | refine zc3 ?_) <;> (conv => whnf)))
    refine pure_free rfl ?_
    rw [decide_eq_true (hok.all hne (by omega))]
theorem eq_tol (l m : List TolD) (hl : LenOk l) (hm : LenOk m) : Pure P 195 [.sl none 3 (l.map tolR), .sl none 3 (m.map tolR)] (· = .b (decide (l = m))) := by
  have h1 : (l.map tolR).length = l.length := List.length_map _
  have h2 : (m.map tolR).length = m.length := List.length_map _
  unfold LenOk at hl hm
  refine pure_fn (hG _ AF.f195 rfl) rfl ?_
  ((conv => whnf); repeat ((first | refine yf rfl ?_ | refine yt rfl ?_ | refine yo rfl ?_ | refine yc rfl ?_ | refine ys rfl ?_ | refine ye rfl ?_ | refine yn rfl ?_ | refine zw ?_ | refine zdt ?_ | refine zdf ?_ | refine znt ?_ | refine znf ?_ | refine zcd ?_ | refine zci ?_ | refine zc3 ?_) <;> (conv => whnf)))
  refine SIf.mk (fun hne => ?_) (fun hne => ?_)
  · ((conv => whnf); repeat ((first | refine yf rfl ?_ | refine yt rfl ?_ | refine yo rfl ?_ | refine yc rfl ?_ | refine ys rfl ?_ | refine ye rfl ?_ | refine yn rfl ?_ | refine zw ?_ | refine zdt ?_ | refine zdf ?_ | refine znt ?_ | refine znf ?_ | refine zcd ?_ | refine zci ?_ | refine zc3 ?_) <;> (conv => whnf)))
    refine pure_free rfl ?_
    rw [decide_eq_false]
    rintro rfl
    simp at hne
  have hne : l.length = m.length := by simp [h1, h2] at hne; omega
  ((conv => whnf); repeat ((first | refine yf rfl ?_ | refine yt rfl ?_ | refine yo rfl ?_ | refine yc rfl ?_ | refine ys rfl ?_ | refine ye rfl ?_ | refine yn rfl ?_ | refine zw ?_ | refine zdt ?_ | refine zdf ?_ | refine znt ?_ | refine znf ?_ | refine zcd ?_ | refine zci ?_ | refine zc3 ?_) <;> (conv => whnf)))
  refine SLoopZ.by (fun q fr st => ∃ i : Nat, i ≤ l.length ∧ q = l.length - i ∧ SameYet l m i ∧ fr = [(13, .i .i64 i), (12, .i .i64 (l.map tolR).length), (1, .sl none 3 (m.map tolR)), (0, .sl none 3 (l.map tolR))] ∧ st = gst noG)
    l.length ⟨_, _, ?_, 0, Nat.zero_le _, rfl, SameYet.zero, rfl, rfl⟩ ?_
  · exact tL0
  rintro q fr st ⟨i, hi, rfl, hok, rfl, rfl⟩ R hR
  (conv => whnf)
  refine SIf.ds (fun hlt => ?_) (fun hge => ?_)
  · have hi' : i < l.length := by omega
    have he := List.getElem?_eq_getElem hi'
    have hf := List.getElem?_eq_getElem (by omega : i < m.length)
    generalize l[i] = e at he
    generalize m[i]'(by omega) = f at hf
    ((conv => whnf); repeat ((first | refine SEx.of (map_get' (by simp) he) ?_ | refine SEx.of (map_get' (by simp) hf) ?_ | refine yf rfl ?_ | refine yt rfl ?_ | refine yo rfl ?_ | refine yc rfl ?_ | refine ys rfl ?_ | refine ye rfl ?_ | refine yn rfl ?_ | refine zw ?_ | refine zdt ?_ | refine zdf ?_ | refine znt ?_ | refine znf ?_ | refine zcd ?_ | refine zci ?_ | refine zc3 ?_) <;> (conv => whnf)))
    refine SIf.mk (fun hp => ?_) (fun hp => ?_)
    · ((conv => whnf); repeat ((first | refine yf rfl ?_ | refine yt rfl ?_ | refine yo rfl ?_ | refine yc rfl ?_ | refine ys rfl ?_ | refine ye rfl ?_ | refine yn rfl ?_ | refine zw ?_ | refine zdt ?_ | refine zdf ?_ | refine znt ?_ | refine znf ?_ | refine zcd ?_ | refine zci ?_ | refine zc3 ?_) <;> (conv => whnf)))
      refine pure_free rfl ?_
      rw [decide_eq_false (ne_at he hf (by rintro rfl; simp at hp))]
    · ((conv => whnf); repeat ((first | refine yf rfl ?_ | refine yt rfl ?_ | refine yo rfl ?_ | refine yc rfl ?_ | refine ys rfl ?_ | refine ye rfl ?_ | refine yn rfl ?_ | refine zw ?_ | refine zdt ?_ | refine zdf ?_ | refine znt ?_ | refine znf ?_ | refine zcd ?_ | refine zci ?_ | refine zc3 ?_) <;> (conv => whnf)))
      refine hR (l.length - (i + 1)) _ _ (by omega) ⟨_, _, ?_, i + 1, by omega, rfl, hok.succ he hf (by first | (simpa using hp) | (cases e; cases f; simp at hp; simp [hp])), rfl, rfl⟩
      exact tL0
  · ((conv => whnf); repeat ((first | refine yf rfl ?_ | refine yt rfl ?_ | refine yo rfl ?_ | refine yc rfl ?_ | refine ys rfl ?_ | refine ye rfl ?_ | refine yn rfl ?_ | refine zw ?_ | refine zdt ?_ | refine zdf ?_ | refine znt ?_ | refine znf ?_ | refine zcd ?_ | refine zci ?_ | refine zc3 ?_) <;> (conv => whnf)))
    refine pure_free rfl ?_
    rw [decide_eq_true (hok.all hne (by omega))]
theorem eq_str (l m : List Str) (hl : LenOk l) (hm : LenOk m) : Pure P 241 [.sl none 1 (l.map strR), .sl none 1 (m.map strR)] (· = .b (decide (l = m))) := by
  have h1 : (l.map strR).length = l.length := List.length_map _
  have h2 : (m.map strR).length = m.length := List.length_map _
  unfold LenOk at hl hm
  refine pure_fn (hG _ AF.f241 rfl) rfl ?_
  ((conv => whnf); repeat ((first | refine yf rfl ?_ | refine yt rfl ?_ | refine yo rfl ?_ | refine yc rfl ?_ | refine ys rfl ?_ | refine ye rfl ?_ | refine yn rfl ?_ | refine zw ?_ | refine zdt ?_ | refine zdf ?_ | refine znt ?_ | refine znf ?_ | refine zcd ?_ | refine zci ?_ | refine zc3 ?_) <;> (conv => whnf)))
  refine SIf.mk (fun hne => ?_) (fun hne => ?_)
  · ((conv => whnf); repeat ((first | refine yf rfl ?_ | refine yt rfl ?_ | refine yo rfl ?_ | refine yc rfl ?_ | refine ys rfl ?_ | refine ye rfl ?_ | refine yn rfl ?_ | refine zw ?_ | refine zdt ?_ | refine zdf ?_ | refine znt ?_ | refine znf ?_ | refine zcd ?_ | refine zci ?_ | refine zc3 ?_) <;> (conv => whnf)))
    refine pure_free rfl ?_
    rw [decide_eq_false]
    rintro rfl
    simp at hne
  have hne : l.length = m.length := by simp [h1, h2] at hne; omega
  ((conv => whnf); repeat ((first | refine yf rfl ?_ | refine yt rfl ?_ | refine yo rfl ?_ | refine yc rfl ?_ | refine ys rfl ?_ | refine ye rfl ?_ | refine yn rfl ?_ | refine zw ?_ | refine zdt ?_ | refine zdf ?_ | refine znt ?_ | refine znf ?_ | refine zcd ?_ | refine zci ?_ | refine zc3 ?_) <;> (conv => whnf)))
  refine SLoopZ.by (fun q fr st => ∃ i : Nat, i ≤ l.length ∧ q = l.length - i ∧ SameYet l m i ∧ fr = [(13, .i .i64 i), (12, .i .i64 (l.map strR).length), (1, .sl none 1 (m.map strR)), (0, .sl none 1 (l.map strR))] ∧ st = gst noG)
    l.length ⟨_, _, ?_, 0, Nat.zero_le _, rfl, SameYet.zero, rfl, rfl⟩ ?_
  · exact tL0
  rintro q fr st ⟨i, hi, rfl, hok, rfl, rfl⟩ R hR
  (conv => whnf)
  refine SIf.ds (fun hlt => ?_) (fun hge => ?_)
  · have hi' : i < l.length := by omega
    have he := List.getElem?_eq_getElem hi'
    have hf := List.getElem?_eq_getElem (by omega : i < m.length)
    generalize l[i] = e at he
    generalize m[i]'(by omega) = f at hf
    ((conv => whnf); repeat ((first | refine SEx.of (map_get' (by simp) he) ?_ | refine SEx.of (map_get' (by simp) hf) ?_ | refine yf rfl ?_ | refine yt rfl ?_ | refine yo rfl ?_ | refine yc rfl ?_ | refine ys rfl ?_ | refine ye rfl ?_ | refine yn rfl ?_ | refine zw ?_ | refine zdt ?_ | refine zdf ?_ | refine znt ?_ | refine znf ?_ | refine zcd ?_ | refine zci ?_ | refine zc3 ?_) <;> (conv => whnf)))
    refine SIf.mk (fun hp => ?_) (fun hp => ?_)
    · ((conv => whnf); repeat ((first | refine yf rfl ?_ | refine yt rfl ?_ | refine yo rfl ?_ | refine yc rfl ?_ | refine ys rfl ?_ | refine ye rfl ?_ | refine yn rfl ?_ | refine zw ?_ | refine zdt ?_ | refine zdf ?_ | refine znt ?_ | refine znf ?_ | refine zcd ?_ | refine zci ?_ | refine zc3 ?_) <;> (conv => whnf)))
      refine pure_free rfl ?_
      rw [decide_eq_false (ne_at he hf (by rintro rfl; simp at hp))]
    · ((conv => whnf); repeat ((first | refine yf rfl ?_ | refine yt rfl ?_ | refine yo rfl ?_ | refine yc rfl ?_ | refine ys rfl ?_ | refine ye rfl ?_ | refine yn rfl ?_ | refine zw ?_ | refine zdt ?_ | refine zdf ?_ | refine znt ?_ | refine znf ?_ | refine zcd ?_ | refine zci ?_ | refine zc3 ?_) <;> (conv => whnf)))
      refine hR (l.length - (i + 1)) _ _ (by omega) ⟨_, _, ?_, i + 1, by omega, rfl, hok.succ he hf (by first | (simpa using hp) | (cases e; cases f; simp at hp; simp [hp])), rfl, rfl⟩
      exact tL0
  · ((conv => whnf); repeat ((first | refine yf rfl ?_ | refine yt rfl ?_ | refine yo rfl ?_ | refine yc rfl ?_ | refine ys rfl ?_ | refine ye rfl ?_ | refine yn rfl ?_ | refine zw ?_ | refine zdt ?_ | refine zdf ?_ | refine znt ?_ | refine znf ?_ | refine zcd ?_ | refine zci ?_ | refine zc3 ?_) <;> (conv => whnf)))
    refine pure_free rfl ?_
    rw [decide_eq_true (hok.all hne (by omega))]
theorem eqTerm_ok (x y : TermD) (hx : x.ok) (hy : y.ok) : Pure P 240 [.agg (termR x), .agg (termR y)] (· = .b (decide (x = y))) := by
  refine pure_fn (hG _ AF.f240 rfl) rfl ?_
  ((conv => whnf); repeat' ((first | refine SCall.app (Pure.go (eq_str hG _ _ hx hy) rfl) ?_ | refine yf rfl ?_ | refine yt rfl ?_ | refine yo rfl ?_ | refine yc rfl ?_ | refine ys rfl ?_ | refine ye rfl ?_ | refine yn rfl ?_ | refine zw ?_ | refine zdt ?_ | refine zdf ?_ | refine znt ?_ | refine znf ?_ | refine zcd ?_ | refine zci ?_ | refine zc3 ?_ | refine SIf.ds (fun _ => ?_) (fun _ => ?_) | refine SIf.ns (fun _ => ?_) (fun _ => ?_) | refine SIf.mk (fun _ => ?_) (fun _ => ?_) | (intro r hr; cases r)) <;> (conv => whnf)))
  all_goals (refine pure_free rfl ?_)
  all_goals (cases x; cases y; simp_all)
theorem eqf_term (l m : List TermD) (hl : LenOk l) (hm : LenOk m) (ol : ∀ x ∈ l, TermD.ok x) (om : ∀ x ∈ m, TermD.ok x) : Pure P 239 [.sl none 3 (l.map termR), .sl none 3 (m.map termR), .fn 240 [] []] (· = .b (decide (l = m))) := by
  have h1 : (l.map termR).length = l.length := List.length_map _
  have h2 : (m.map termR).length = m.length := List.length_map _
  unfold LenOk at hl hm
  refine pure_fn (hG _ AF.f239 rfl) rfl ?_
  ((conv => whnf); repeat ((first | refine yf rfl ?_ | refine yt rfl ?_ | refine yo rfl ?_ | refine yc rfl ?_ | refine ys rfl ?_ | refine ye rfl ?_ | refine yn rfl ?_ | refine zw ?_ | refine zdt ?_ | refine zdf ?_ | refine znt ?_ | refine znf ?_ | refine zcd ?_ | refine zci ?_ | refine zc3 ?_) <;> (conv => whnf)))
  refine SIf.mk (fun hne => ?_) (fun hne => ?_)
  · ((conv => whnf); repeat ((first | refine yf rfl ?_ | refine yt rfl ?_ | refine yo rfl ?_ | refine yc rfl ?_ | refine ys rfl ?_ | refine ye rfl ?_ | refine yn rfl ?_ | refine zw ?_ | refine zdt ?_ | refine zdf ?_ | refine znt ?_ | refine znf ?_ | refine zcd ?_ | refine zci ?_ | refine zc3 ?_) <;> (conv => whnf)))
    refine pure_free rfl ?_
    rw [decide_eq_false]
    rintro rfl
    simp at hne
  have hne : l.length = m.length := by simp [h1, h2] at hne; omega
  ((conv => whnf); repeat ((first | refine yf rfl ?_ | refine yt rfl ?_ | refine yo rfl ?_ | refine yc rfl ?_ | refine ys rfl ?_ | refine ye rfl ?_ | refine yn rfl ?_ | refine zw ?_ | refine zdt ?_ | refine zdf ?_ | refine znt ?_ | refine znf ?_ | refine zcd ?_ | refine zci ?_ | refine zc3 ?_) <;> (conv => whnf)))
  refine SLoopZ.by (fun q fr st => ∃ i : Nat, i ≤ l.length ∧ q = l.length - i ∧ SameYet l m i ∧ fr = [(17, .i .i64 i), (16, .i .i64 (l.map termR).length), (15, .sl none 3 (l.map termR)), (2, .fn 240 [] []), (1, .sl none 3 (m.map termR))] ∧ st = gst noG)
    l.length ⟨_, _, ?_, 0, Nat.zero_le _, rfl, SameYet.zero, rfl, rfl⟩ ?_
  · exact tL0
  rintro q fr st ⟨i, hi, rfl, hok, rfl, rfl⟩ R hR
  (conv => whnf)
  refine SIf.ds (fun hlt => ?_) (fun hge => ?_)
  · have hi' : i < l.length := by omega
    have he := List.getElem?_eq_getElem hi'
    have hf := List.getElem?_eq_getElem (by omega : i < m.length)
    have oe := ol _ (List.getElem_mem hi')
    have of := om _ (List.getElem_mem (by omega : i < m.length))
    generalize l[i] = e at he oe
    generalize m[i]'(by omega) = f at hf of
    ((conv => whnf); repeat ((first | refine SCall.app (Pure.go (eqTerm_ok hG e f oe of) rfl) ?_ | refine SEx.of (map_get' (by simp) he) ?_ | refine SEx.of (map_get' (by simp) hf) ?_ | refine yf rfl ?_ | refine yt rfl ?_ | refine yo rfl ?_ | refine yc rfl ?_ | refine ys rfl ?_ | refine ye rfl ?_ | refine yn rfl ?_ | refine zw ?_ | refine zdt ?_ | refine zdf ?_ | refine znt ?_ | refine znf ?_ | refine zcd ?_ | refine zci ?_ | refine zc3 ?_) <;> (conv => whnf)))
    refine SIf.mk (fun hp => ?_) (fun hp => ?_)
    · ((conv => whnf); repeat ((first | refine yf rfl ?_ | refine yt rfl ?_ | refine yo rfl ?_ | refine yc rfl ?_ | refine ys rfl ?_ | refine ye rfl ?_ | refine yn rfl ?_ | refine zw ?_ | refine zdt ?_ | refine zdf ?_ | refine znt ?_ | refine znf ?_ | refine zcd ?_ | refine zci ?_ | refine zc3 ?_) <;> (conv => whnf)))
      refine pure_free rfl ?_
      rw [decide_eq_false (ne_at he hf (by rintro rfl; simp at hp))]
    · ((conv => whnf); repeat ((first | refine yf rfl ?_ | refine yt rfl ?_ | refine yo rfl ?_ | refine yc rfl ?_ | refine ys rfl ?_ | refine ye rfl ?_ | refine yn rfl ?_ | refine zw ?_ | refine zdt ?_ | refine zdf ?_ | refine znt ?_ | refine znf ?_ | refine zcd ?_ | refine zci ?_ | refine zc3 ?_) <;> (conv => whnf)))
      refine hR (l.length - (i + 1)) _ _ (by omega) ⟨_, _, ?_, i + 1, by omega, rfl, hok.succ he hf (by simpa using hp), rfl, rfl⟩
      exact tL0
  · ((conv => whnf); repeat ((first | refine yf rfl ?_ | refine yt rfl ?_ | refine yo rfl ?_ | refine yc rfl ?_ | refine ys rfl ?_ | refine ye rfl ?_ | refine yn rfl ?_ | refine zw ?_ | refine zdt ?_ | refine zdf ?_ | refine znt ?_ | refine znf ?_ | refine zcd ?_ | refine zci ?_ | refine zc3 ?_) <;> (conv => whnf)))
    refine pure_free rfl ?_
    rw [decide_eq_true (hok.all hne (by omega))]
theorem eqTerms_ok (l m : List TermD) (hl : LenOk l) (hm : LenOk m) (ol : ∀ x ∈ l, x.ok) (om : ∀ x ∈ m, x.ok) : Pure P 196 [.sl none 3 (l.map termR), .sl none 3 (m.map termR)] (· = .b (decide (l = m))) := by
  refine pure_fn (hG _ AF.f196 rfl) rfl ?_
  ((conv => whnf); repeat ((first | refine SCall.app (Pure.go (eqf_term hG l m hl hm ol om) rfl) ?_ | refine yf rfl ?_ | refine yt rfl ?_ | refine yo rfl ?_ | refine yc rfl ?_ | refine ys rfl ?_ | refine ye rfl ?_ | refine yn rfl ?_ | refine zw ?_ | refine zdt ?_ | refine zdf ?_ | refine znt ?_ | refine znf ?_ | refine zcd ?_ | refine zci ?_ | refine zc3 ?_) <;> (conv => whnf)))
  exact pure_free rfl rfl
theorem eqPod_ok (p q : PodD) (hp : p.ok) (hq : q.ok) : Pure P 128 [.agg (podR p), .agg (podR q)] (· = .b (decide (p = q))) := by
  refine pure_fn (hG _ AF.f128 rfl) rfl ?_
  ((conv => whnf); repeat' ((first | refine SCall.app (Pure.go (eq_int hG _ _ hp.ports hq.ports) rfl) ?_ | refine SCall.app (Pure.go (eq_pair hG _ _ hp.labels hq.labels) rfl) ?_ | refine SCall.app (Pure.go (eq_tol hG _ _ hp.tols hq.tols) rfl) ?_ | refine SCall.app (Pure.go (eqTerms_ok hG _ _ hp.sel.len hq.sel.len hp.sel.each hq.sel.each) rfl) ?_ | refine SCall.app (Pure.go (eqTerms_ok hG _ _ hp.anti.len hq.anti.len hp.anti.each hq.anti.each) rfl) ?_ | refine SCall.app (Pure.go (eqTerms_ok hG _ _ hp.even.len hq.even.len hp.even.each hq.even.each) rfl) ?_ | refine yf rfl ?_ | refine yt rfl ?_ | refine yo rfl ?_ | refine yc rfl ?_ | refine ys rfl ?_ | refine ye rfl ?_ | refine yn rfl ?_ | refine zw ?_ | refine zdt ?_ | refine zdf ?_ | refine znt ?_ | refine znf ?_ | refine zcd ?_ | refine zci ?_ | refine zc3 ?_ | refine SIf.ds (fun _ => ?_) (fun _ => ?_) | refine SIf.ns (fun _ => ?_) (fun _ => ?_) | refine SIf.mk (fun _ => ?_) (fun _ => ?_) | (intro r hr; cases r)) <;> (conv => whnf)))
  all_goals (refine pure_free rfl ?_)
  all_goals (rcases p with ⟨_, _, _, ⟨_, _, _⟩, _, _, _, _, _, _, _, _, _, _⟩; rcases q with ⟨_, _, _, ⟨_, _, _⟩, _, _, _, _, _, _, _, _, _, _⟩; clear hp hq; try simp_all)
  all_goals (intros; simp_all)
end
end Go.Eng
