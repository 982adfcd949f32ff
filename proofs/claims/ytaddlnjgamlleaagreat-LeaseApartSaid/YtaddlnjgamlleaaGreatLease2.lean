/-
LeaseApart, as the abstract run has it.
-/
import Derived.Test.YtaddlnjgamlleaaGreatLease0
namespace Go.Proofs.YtaddlnjgamlleaaGreat
open Go.Eng

def clampI (lo hi x : Int) : Int := if lo < (if hi < x then hi else x) then (if hi < x then hi else x) else lo
theorem clamp_in (lo hi x : Int) (h : lo ≤ hi) : lo ≤ clampI lo hi x ∧ clampI lo hi x ≤ hi := by
  unfold clampI
  repeat' split
  all_goals omega
theorem bring_id {x : Int} (h1 : 0 ≤ x) (h2 : x ≤ 1152921504606846976) : bringI x = x := by
  unfold bringI
  repeat' split
  all_goals omega
theorem bring_neg {x : Int} (h1 : x < 0) : bringI x = 0 := by
  unfold bringI
  repeat' split
  all_goals omega

theorem w64min {n : Int} (h : -9223372036854775808 ≤ n) : IntKind.i64.min ≤ n := by simpa [IntKind.min, IntKind.bits, IntKind.signed] using h
theorem w64max {n : Int} (h : n ≤ 9223372036854775807) : n ≤ IntKind.i64.max := by simpa [IntKind.max, IntKind.bits, IntKind.signed] using h

section
variable {h : Heap} {K : V → Heap → Prop}
/-- LeaseApart answers true, where 'begun' does. -/
theorem leaseApart_ok (hb : ACall Tryz.prog 20 [] noG (fun r _ => r = .b true)) (s t g d : Int) (hk : K (.b true) h) : ACall Tryz.prog 5 [.i .i64 s, .i .i64 t, .i .i64 g, .i .i64 d] h K := by
  have b1 := clamp_in 0 1099511627776 s (by decide)
  have b2 := clamp_in 0 1099511627776 t (by decide)
  have b3 := clamp_in 0 10000 g (by decide)
  have b4 := clamp_in (-100) 100 d (by decide)
  have e1 := bring_id (x := clampI 0 1099511627776 s) (by omega) (by omega)
  have e2 := bring_id (x := clampI 0 1099511627776 t) (by omega) (by omega)
  have x1 : leadsI (clampI 0 1099511627776 s + clampI 0 10000 g) (clampI 0 1099511627776 s) = true → freeI (clampI 0 1099511627776 t + clampI 0 10000 g + clampI (-100) 100 d) (clampI 0 1099511627776 t) 1000 = false := by
    intro c1
    simp only [leadsI, decide_eq_true_eq] at c1
    rw [e1, bring_id (by omega) (by omega)] at c1
    simp only [freeI, Bool.and_eq_false_iff, decide_eq_false_iff_not]
    right; right
    rw [e2]
    rcases Int.lt_or_le (clampI 0 1099511627776 t + clampI 0 10000 g + clampI (-100) 100 d) 0 with hn | hn
    · rw [bring_neg hn]; omega
    · rw [bring_id hn (by omega)]; omega
  have x2 : freeI (clampI 0 1099511627776 t + 1000) (clampI 0 1099511627776 t) 1000 = true := by
    simp only [freeI, Bool.and_eq_true, decide_eq_true_eq]
    rw [e2, bring_id (by omega) (by omega)]
    omega
  have x3 : leadsI (bringI (clampI 0 1099511627776 s) + 1000 - 100) (clampI 0 1099511627776 s) = false := by
    simp only [leadsI, decide_eq_false_iff_not]
    rw [e1, bring_id (by omega) (by omega)]
    omega
  have x4 : leadsI (bringI (clampI 0 1099511627776 s) + 1000 - 100 - 1) (clampI 0 1099511627776 s) = true := by
    simp only [leadsI, decide_eq_true_eq]
    rw [e1, bring_id (by omega) (by omega)]
    omega
  have x5 : dueI (clampI 0 1099511627776 s + 300) (clampI 0 1099511627776 s) = true := by
    simp only [dueI, decide_eq_true_eq]
    rw [e1, bring_id (by omega) (by omega)]
    omega
  have x6 : dueI (clampI 0 1099511627776 s + 300 - 1) (clampI 0 1099511627776 s) = false := by
    simp only [dueI, decide_eq_false_iff_not]
    rw [e1, bring_id (by omega) (by omega)]
    omega
  refine fn_ok (gnsOk 5 AF.f5 rfl) rfl ?_
  refine hb.frame rfl fun v h' hv => ?_
  subst hv
  refine ⟨rfl, ?_⟩
  repeat (first | refine wIf_t rfl ?_ | refine wIf_f rfl ?_)
  conv => whnf
  refine Or.inr ⟨w64min (n := clampI 0 1099511627776 s + clampI 0 10000 g) (by omega), w64max (n := clampI 0 1099511627776 s + clampI 0 10000 g) (by omega), ?_⟩
  conv => whnf
  refine Or.inr ⟨w64min (n := clampI 0 1099511627776 t + clampI 0 10000 g) (by omega), w64max (n := clampI 0 1099511627776 t + clampI 0 10000 g) (by omega), ?_⟩
  conv => whnf
  refine Or.inr ⟨w64min (n := clampI 0 1099511627776 t + clampI 0 10000 g + clampI (-100) 100 d) (by omega), w64max (n := clampI 0 1099511627776 t + clampI 0 10000 g + clampI (-100) 100 d) (by omega), ?_⟩
  refine leads_ok (clampI 0 1099511627776 s + clampI 0 10000 g) (clampI 0 1099511627776 s) ?_
  refine wIf_s (fun c1 => ?_) (fun c1 => ?_)
  all_goals repeat (first | refine wIf_t rfl ?_ | refine wIf_f rfl ?_)
  any_goals (refine free_ok (clampI 0 1099511627776 t + clampI 0 10000 g + clampI (-100) 100 d) (clampI 0 1099511627776 t) 1000 ?_; rw [x1 c1])
  all_goals repeat (first | refine wIf_t rfl ?_ | refine wIf_f rfl ?_)
  all_goals (conv => whnf)
  all_goals refine Or.inr ⟨w64min (n := clampI 0 1099511627776 t + 1000) (by omega), w64max (n := clampI 0 1099511627776 t + 1000) (by omega), ?_⟩
  all_goals refine free_ok (clampI 0 1099511627776 t + 1000) (clampI 0 1099511627776 t) 1000 ?_
  all_goals rw [x2]
  all_goals repeat (first | refine wIf_t rfl ?_ | refine wIf_f rfl ?_)
  all_goals refine until_ok (clampI 0 1099511627776 s) ?_
  all_goals repeat (first | refine wIf_t rfl ?_ | refine wIf_f rfl ?_)
  all_goals refine leads_ok (bringI (clampI 0 1099511627776 s) + 1000 - 100) (clampI 0 1099511627776 s) ?_
  all_goals rw [x3]
  all_goals repeat (first | refine wIf_t rfl ?_ | refine wIf_f rfl ?_)
  all_goals refine until_ok (clampI 0 1099511627776 s) ?_
  all_goals repeat (first | refine wIf_t rfl ?_ | refine wIf_f rfl ?_)
  all_goals (conv => whnf)
  all_goals refine Or.inr ⟨w64min (n := bringI (clampI 0 1099511627776 s) + 1000 - 100 - 1) (by omega), w64max (n := bringI (clampI 0 1099511627776 s) + 1000 - 100 - 1) (by omega), ?_⟩
  all_goals repeat (first | refine wIf_t rfl ?_ | refine wIf_f rfl ?_)
  all_goals refine leads_ok (bringI (clampI 0 1099511627776 s) + 1000 - 100 - 1) (clampI 0 1099511627776 s) ?_
  all_goals rw [x4]
  all_goals repeat (first | refine wIf_t rfl ?_ | refine wIf_f rfl ?_)
  all_goals (conv => whnf)
  all_goals refine Or.inr ⟨w64min (n := clampI 0 1099511627776 s + 300) (by omega), w64max (n := clampI 0 1099511627776 s + 300) (by omega), ?_⟩
  all_goals repeat (first | refine wIf_t rfl ?_ | refine wIf_f rfl ?_)
  all_goals refine due_ok (clampI 0 1099511627776 s + 300) (clampI 0 1099511627776 s) ?_
  all_goals rw [x5]
  all_goals repeat (first | refine wIf_t rfl ?_ | refine wIf_f rfl ?_)
  all_goals (conv => whnf)
  all_goals refine Or.inr ⟨w64min (n := clampI 0 1099511627776 s + 300) (by omega), w64max (n := clampI 0 1099511627776 s + 300) (by omega), ?_⟩
  all_goals repeat (first | refine wIf_t rfl ?_ | refine wIf_f rfl ?_)
  all_goals (conv => whnf)
  all_goals refine Or.inr ⟨w64min (n := clampI 0 1099511627776 s + 300 - 1) (by omega), w64max (n := clampI 0 1099511627776 s + 300 - 1) (by omega), ?_⟩
  all_goals repeat (first | refine wIf_t rfl ?_ | refine wIf_f rfl ?_)
  all_goals refine due_ok (clampI 0 1099511627776 s + 300 - 1) (clampI 0 1099511627776 s) ?_
  all_goals rw [x6]
  all_goals repeat (first | refine wIf_t rfl ?_ | refine wIf_f rfl ?_)
  all_goals exact hk
end
end Go.Proofs.YtaddlnjgamlleaaGreat
