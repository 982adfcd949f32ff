/-
Leases: until when, when due, when free; a lease in bytes.
-/
import Derived.Test.YtomcdckppplieaaGreatNOa
import Derived.Test.YtomcdckppplieaaGreatHp
import Derived.Test.YtomcdckppplieaaGreatArgX
import Derived.Test.YtomcdckppplieaaGreatElP
set_option linter.unusedVariables false
set_option linter.unusedSimpArgs false
namespace Go.Eng
open Go
/-- A time that is no too great one. -/
def TimeOk (t : Int) : Prop := 0 ≤ t ∧ t ≤ 1125899906842624
section
variable {P : Program} (hG : FnsOk P AF.fns.get)
include hG
theorem bring_ok (t : Int) (h : TimeOk t) : Pure P 59 [.i .i64 t] (· = .i .i64 t) := by
  obtain ⟨h1, h2⟩ := h
  refine pure_fn (hG _ AF.f59 rfl) rfl ?_
  ((conv => whnf); repeat ((first | refine SOpt.of (mx2 (z := t) (by split <;> omega)) ?_ | refine SOpt.of (mn2 (z := t) (by split <;> omega)) ?_ | refine yf rfl ?_ | refine yt rfl ?_ | refine yo rfl ?_ | refine yc rfl ?_ | refine ys rfl ?_ | refine ye rfl ?_ | refine yn rfl ?_ | refine zw ?_ | refine zdt ?_ | refine zdf ?_ | refine znt ?_ | refine znf ?_ | refine zcd ?_ | refine zci ?_ | refine zc3 ?_) <;> (conv => whnf)))
  exact pure_free rfl rfl
theorem until_ok (t : Int) (h : TimeOk t) : Pure P 44 [.i .i64 t] (· = .i .i64 (t + 1000 - 100)) := by
  have hb := bring_ok hG t h
  obtain ⟨h1, h2⟩ := h
  refine pure_fn (hG _ AF.f44 rfl) rfl ?_
  ((conv => whnf); repeat ((first | refine SCall.app (Pure.go hb rfl) ?_ | refine yf rfl ?_ | refine yt rfl ?_ | refine yo rfl ?_ | refine yc rfl ?_ | refine ys rfl ?_ | refine ye rfl ?_ | refine yn rfl ?_ | refine zw ?_ | refine zdt ?_ | refine zdf ?_ | refine znt ?_ | refine znf ?_ | refine zcd ?_ | refine zci ?_ | refine zc3 ?_) <;> (conv => whnf)))
  exact pure_free rfl rfl
theorem lleads_ok (now t : Int) (h : TimeOk now) (h' : TimeOk t) : Pure P 58 [.i .i64 now, .i .i64 t] (· = .b (decide (now < t + 1000 - 100))) := by
  have hb := bring_ok hG now h
  have hu := until_ok hG t h'
  refine pure_fn (hG _ AF.f58 rfl) rfl ?_
  ((conv => whnf); repeat ((first | refine SCall.app (Pure.go hb rfl) ?_ | refine SCall.app (Pure.go hu rfl) ?_ | refine yf rfl ?_ | refine yt rfl ?_ | refine yo rfl ?_ | refine yc rfl ?_ | refine ys rfl ?_ | refine ye rfl ?_ | refine yn rfl ?_ | refine zw ?_ | refine zdt ?_ | refine zdf ?_ | refine znt ?_ | refine znf ?_ | refine zcd ?_ | refine zci ?_ | refine zc3 ?_) <;> (conv => whnf)))
  exact pure_free rfl rfl
theorem due_ok (now t : Int) (h : TimeOk now) (h' : TimeOk t) : Pure P 21 [.i .i64 now, .i .i64 t] (· = .b (decide (300 ≤ now - t))) := by
  have hb := bring_ok hG now h
  have hu := bring_ok hG t h'
  obtain ⟨h1, h2⟩ := h
  obtain ⟨h3, h4⟩ := h'
  refine pure_fn (hG _ AF.f21 rfl) rfl ?_
  ((conv => whnf); repeat ((first | refine SCall.app (Pure.go hb rfl) ?_ | refine SCall.app (Pure.go hu rfl) ?_ | refine yf rfl ?_ | refine yt rfl ?_ | refine yo rfl ?_ | refine yc rfl ?_ | refine ys rfl ?_ | refine ye rfl ?_ | refine yn rfl ?_ | refine zw ?_ | refine zdt ?_ | refine zdf ?_ | refine znt ?_ | refine znf ?_ | refine zcd ?_ | refine zci ?_ | refine zc3 ?_) <;> (conv => whnf)))
  exact pure_free rfl rfl
theorem free_ok (now t d : Int) (h : TimeOk now) (h' : TimeOk t) : Pure P 90 [.i .i64 now, .i .i64 t, .i .i64 d] (· = .b (decide (1 ≤ d) && (decide (d ≤ 1099511627776) && decide (d ≤ now - t)))) := by
  have hb := bring_ok hG now h
  have hu := bring_ok hG t h'
  obtain ⟨h1, h2⟩ := h
  obtain ⟨h3, h4⟩ := h'
  refine pure_fn (hG _ AF.f90 rfl) rfl ?_
  by_cases c1 : 1 ≤ d
  · by_cases c2 : d ≤ 1099511627776
    · ((conv => whnf); repeat ((first | refine SCall.app (Pure.go hb rfl) ?_ | refine SCall.app (Pure.go hu rfl) ?_ | refine yf rfl ?_ | refine yt rfl ?_ | refine yo rfl ?_ | refine yc rfl ?_ | refine ys rfl ?_ | refine ye rfl ?_ | refine yn rfl ?_ | refine zw ?_ | refine zdt ?_ | refine zdf ?_ | refine znt ?_ | refine znf ?_ | refine zcd ?_ | refine zci ?_ | refine zc3 ?_) <;> (conv => whnf)))
      exact pure_free rfl (by rw [decide_eq_true c1, decide_eq_true c2]; rfl)
    · ((conv => whnf); repeat ((first | refine SCall.app (Pure.go hb rfl) ?_ | refine SCall.app (Pure.go hu rfl) ?_ | refine yf rfl ?_ | refine yt rfl ?_ | refine yo rfl ?_ | refine yc rfl ?_ | refine ys rfl ?_ | refine ye rfl ?_ | refine yn rfl ?_ | refine zw ?_ | refine zdt ?_ | refine zdf ?_ | refine znt ?_ | refine znf ?_ | refine zcd ?_ | refine zci ?_ | refine zc3 ?_) <;> (conv => whnf)))
      exact pure_free rfl (by rw [decide_eq_true c1, decide_eq_false c2]; rfl)
  · ((conv => whnf); repeat ((first | refine SCall.app (Pure.go hb rfl) ?_ | refine SCall.app (Pure.go hu rfl) ?_ | refine yf rfl ?_ | refine yt rfl ?_ | refine yo rfl ?_ | refine yc rfl ?_ | refine ys rfl ?_ | refine ye rfl ?_ | refine yn rfl ?_ | refine zw ?_ | refine zdt ?_ | refine zdf ?_ | refine znt ?_ | refine znf ?_ | refine zcd ?_ | refine zci ?_ | refine zc3 ?_) <;> (conv => whnf)))
    exact pure_free rfl (by rw [decide_eq_false c1]; rfl)
theorem late_ok (now t : Int) (h : TimeOk now) (h' : TimeOk t) : Pure P 53 [.i .i64 now, .i .i64 t] (· = .b (decide (200 ≤ now - t))) := by
  obtain ⟨h1, h2⟩ := h
  obtain ⟨h3, h4⟩ := h'
  refine pure_fn (hG _ AF.f53 rfl) rfl ?_
  by_cases c1 : now ≥ t
  · ((conv => whnf); repeat ((first | refine SWrap.wu (by omega) (by omega) ?_ | refine yf rfl ?_ | refine yt rfl ?_ | refine yo rfl ?_ | refine yc rfl ?_ | refine ys rfl ?_ | refine ye rfl ?_ | refine yn rfl ?_ | refine zw ?_ | refine zdt ?_ | refine zdf ?_ | refine znt ?_ | refine znf ?_ | refine zcd ?_ | refine zci ?_ | refine zc3 ?_) <;> (conv => whnf)))
    exact pure_free rfl rfl
  · ((conv => whnf); repeat ((first | refine yf rfl ?_ | refine yt rfl ?_ | refine yo rfl ?_ | refine yc rfl ?_ | refine ys rfl ?_ | refine ye rfl ?_ | refine yn rfl ?_ | refine zw ?_ | refine zdt ?_ | refine zdf ?_ | refine znt ?_ | refine znf ?_ | refine zcd ?_ | refine zci ?_ | refine zc3 ?_) <;> (conv => whnf)))
    exact pure_free rfl (by rw [decide_eq_false (show ¬ 200 ≤ now - t by omega)])
theorem keyl_ok : Pure P 55 [.i .i64 3, .s []] (· = .s [108]) := by
  refine pure_fn (hG _ AF.f55 rfl) rfl ?_
  ((conv => whnf); repeat ((first | refine yf rfl ?_ | refine yt rfl ?_ | refine yo rfl ?_ | refine yc rfl ?_ | refine ys rfl ?_ | refine ye rfl ?_ | refine yn rfl ?_ | refine zw ?_ | refine zdt ?_ | refine zdf ?_ | refine znt ?_ | refine znf ?_ | refine zcd ?_ | refine zci ?_ | refine zc3 ?_) <;> (conv => whnf)))
  exact pure_free rfl rfl
set_option maxHeartbeats 8000000 in
set_option maxRecDepth 100000 in
theorem putl_ok (n : Nat) (hn : n ≤ 7) : Pure P 34 [.agg [.i .i64 n, .i .i64 1000]] (· = .sl none 1 ([3, (n : Int), 0, 0, 0, 0, 0, 0, 3, 232].map byR)) := by
  refine pure_fn (hG _ AF.f34 rfl) rfl ?_
  have h8 : n = 0 ∨ n = 1 ∨ n = 2 ∨ n = 3 ∨ n = 4 ∨ n = 5 ∨ n = 6 ∨ n = 7 := by omega
  rcases h8 with rfl | rfl | rfl | rfl | rfl | rfl | rfl | rfl
  all_goals
    ((conv => whnf); repeat ((first | refine SCall.app (fn_sf (hG _ _ rfl) rfl) ?_ | refine SLoopB.un rfl ?_ | refine SWrap.of (by decide) (by decide) ?_ | refine SWrap.mk ?_ | refine yf rfl ?_ | refine yt rfl ?_ | refine yo rfl ?_ | refine yc rfl ?_ | refine ys rfl ?_ | refine ye rfl ?_ | refine yn rfl ?_ | refine zw ?_ | refine zdt ?_ | refine zdf ?_ | refine znt ?_ | refine znf ?_ | refine zcd ?_ | refine zci ?_ | refine zc3 ?_ | refine SLoopZ.un rfl ?_) <;> (conv => whnf)))
    exact pure_free rfl rfl
end
end Go.Eng
