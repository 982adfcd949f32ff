/-
The functions of lease, and the document's.
-/
import Derived.Test.YtaddlnjgamlleaaGreatAfOk
import Derived.Test.YtaddlnjgamlleaaGreatAgOk
import Derived.Test.YtaddlnjgamlleaaGreatEngOrc
import Derived.Test.YtaddlnjgamlleaaGreatEngFrame
namespace Go.Proofs.YtaddlnjgamlleaaGreat
open Go.Eng

theorem w64 {n : Int} {k : Int → Prop} (h1 : -9223372036854775808 ≤ n) (h2 : n ≤ 9223372036854775807) (hk : k n) : wWrap .i64 n k :=
  wWrap_i (by simpa [IntKind.min, IntKind.bits, IntKind.signed] using h1) (by simpa [IntKind.max, IntKind.bits, IntKind.signed] using h2) hk

def bringI (t : Int) : Int := if 1152921504606846976 < (if t < 0 then 0 else t) then 1152921504606846976 else (if t < 0 then 0 else t)
def clipI (t : Int) : Int := if 0 < (if 1152921504606846976 < t then 1152921504606846976 else t) then (if 1152921504606846976 < t then 1152921504606846976 else t) else 0
theorem clip_eq (t : Int) : clipI t = bringI t := by unfold clipI bringI; repeat' split
                                                     all_goals omega
theorem bring_in (t : Int) : 0 ≤ bringI t ∧ bringI t ≤ 1152921504606846976 := by unfold bringI; split <;> split <;> omega
def leadsI (n s : Int) : Bool := decide (bringI n < bringI s + 1000 - 100)
def freeI (n s d : Int) : Bool := decide (1 ≤ d) && (decide (d ≤ 1099511627776) && decide (d ≤ bringI n - bringI s))
def dueI (n s : Int) : Bool := decide (300 ≤ bringI n - bringI s)

section
variable {h : Heap} {K : V → Heap → Prop}
theorem bring_ok (t : Int) (hk : K (.i .i64 (bringI t)) h) : ACall Tryz.prog 79 [.i .i64 t] h K := fn_ok (fnsOk 79 AF.f79 rfl) rfl hk
theorem clip_ok (t : Int) (hk : K (.i .i64 (bringI t)) h) : ACall Tryz.prog 80 [.i .i64 t] h K := by
  rw [← clip_eq] at hk
  exact fn_ok (gnsOk 80 AF.f80 rfl) rfl hk
theorem until_ok (t : Int) (hk : K (.i .i64 (bringI t + 1000 - 100)) h) : ACall Tryz.prog 42 [.i .i64 t] h K := by
  have hb := bring_in t
  refine fn_ok (fnsOk 42 AF.f42 rfl) rfl ?_
  refine bring_ok t ?_
  refine w64 (by omega) (by omega) ?_
  refine w64 (by omega) (by omega) ?_
  exact hk
theorem runtil_ok (t : Int) (hk : K (.i .i64 (bringI t + 1000 - 100)) h) : ACall Tryz.prog 43 [.i .i64 t] h K := by
  have hb := bring_in t
  refine fn_ok (gnsOk 43 AF.f43 rfl) rfl ?_
  refine clip_ok t ?_
  refine w64 (by omega) (by omega) ?_
  refine w64 (by omega) (by omega) ?_
  exact hk
theorem leads_ok (n s : Int) (hk : K (.b (leadsI n s)) h) : ACall Tryz.prog 44 [.i .i64 n, .i .i64 s] h K := by
  refine fn_ok (fnsOk 44 AF.f44 rfl) rfl ?_
  refine bring_ok n ?_
  refine until_ok s ?_
  exact hk
theorem rleads_ok (n s : Int) (hk : K (.b (leadsI n s)) h) : ACall Tryz.prog 45 [.i .i64 n, .i .i64 s] h K := by
  refine fn_ok (gnsOk 45 AF.f45 rfl) rfl ?_
  refine clip_ok n ?_
  refine runtil_ok s ?_
  exact hk
theorem due_ok (n s : Int) (hk : K (.b (dueI n s)) h) : ACall Tryz.prog 48 [.i .i64 n, .i .i64 s] h K := by
  have h1 := bring_in n
  have h2 := bring_in s
  refine fn_ok (fnsOk 48 AF.f48 rfl) rfl ?_
  refine bring_ok n ?_
  refine bring_ok s ?_
  refine w64 (by omega) (by omega) ?_
  exact hk
theorem rdue_ok (n s : Int) (hk : K (.b (dueI n s)) h) : ACall Tryz.prog 49 [.i .i64 n, .i .i64 s] h K := by
  have h1 := bring_in n
  have h2 := bring_in s
  refine fn_ok (gnsOk 49 AF.f49 rfl) rfl ?_
  refine clip_ok n ?_
  refine clip_ok s ?_
  refine w64 (by omega) (by omega) ?_
  exact hk
theorem free_ok (n s d : Int) (hk : K (.b (freeI n s d)) h) : ACall Tryz.prog 46 [.i .i64 n, .i .i64 s, .i .i64 d] h K := by
  have h1 := bring_in n
  have h2 := bring_in s
  have hk' : ∀ b : Bool, b = freeI n s d → K (.b b) h := fun b hb => by rw [hb]; exact hk
  refine fn_ok (fnsOk 46 AF.f46 rfl) rfl ?_
  refine wIf_s (fun c1 => ?_) (fun c1 => ?_)
  · repeat (first | refine wIf_t rfl ?_ | refine wIf_f rfl ?_)
    refine wIf_s (fun c2 => ?_) (fun c2 => ?_)
    · repeat (first | refine wIf_t rfl ?_ | refine wIf_f rfl ?_)
      refine bring_ok n ?_
      repeat (first | refine wIf_t rfl ?_ | refine wIf_f rfl ?_)
      refine bring_ok s ?_
      repeat (first | refine wIf_t rfl ?_ | refine wIf_f rfl ?_)
      refine w64 (by omega) (by omega) ?_
      repeat (first | refine wIf_t rfl ?_ | refine wIf_f rfl ?_)
      exact hk' _ (by simp [freeI, of_decide_eq_true c1, of_decide_eq_true c2])
    · repeat (first | refine wIf_t rfl ?_ | refine wIf_f rfl ?_)
      exact hk' _ (by simp [freeI, of_decide_eq_true c1, of_decide_eq_false c2])
  · repeat (first | refine wIf_t rfl ?_ | refine wIf_f rfl ?_)
    exact hk' _ (by simp [freeI, of_decide_eq_false c1])
theorem rfree_ok (n s d : Int) (hk : K (.b (freeI n s d)) h) : ACall Tryz.prog 47 [.i .i64 n, .i .i64 s, .i .i64 d] h K := by
  have h1 := bring_in n
  have h2 := bring_in s
  have hk' : ∀ b : Bool, b = freeI n s d → K (.b b) h := fun b hb => by rw [hb]; exact hk
  refine fn_ok (gnsOk 47 AF.f47 rfl) rfl ?_
  refine wIf_s (fun c1 => ?_) (fun c1 => ?_)
  · repeat (first | refine wIf_t rfl ?_ | refine wIf_f rfl ?_)
    refine wIf_s (fun c2 => ?_) (fun c2 => ?_)
    · repeat (first | refine wIf_t rfl ?_ | refine wIf_f rfl ?_)
      refine clip_ok n ?_
      repeat (first | refine wIf_t rfl ?_ | refine wIf_f rfl ?_)
      refine clip_ok s ?_
      repeat (first | refine wIf_t rfl ?_ | refine wIf_f rfl ?_)
      refine w64 (by omega) (by omega) ?_
      repeat (first | refine wIf_t rfl ?_ | refine wIf_f rfl ?_)
      exact hk' _ (by simp [freeI, of_decide_eq_true c1, of_decide_eq_true c2])
    · repeat (first | refine wIf_t rfl ?_ | refine wIf_f rfl ?_)
      exact hk' _ (by simp [freeI, of_decide_eq_true c1, of_decide_eq_false c2])
  · repeat (first | refine wIf_t rfl ?_ | refine wIf_f rfl ?_)
    exact hk' _ (by simp [freeI, of_decide_eq_false c1])

/-- LeaseAll answers true, where 'begun' does. -/
theorem leaseAll_ok (hb : ACall Tryz.prog 20 [] noG (fun r _ => r = .b true)) (n s d : Int) (hk : K (.b true) h) : ACall Tryz.prog 4 [.i .i64 n, .i .i64 s, .i .i64 d] h K := by
  have h1 := bring_in n
  have h2 := bring_in s
  refine fn_ok (gnsOk 4 AF.f4 rfl) rfl ?_
  refine hb.frame rfl fun v h' hv => ?_
  subst hv
  refine ⟨rfl, ?_⟩
  repeat (first | refine wIf_t rfl ?_ | refine wIf_f rfl ?_)
  refine until_ok s ?_
  refine runtil_ok s ?_
  refine wIf_t (decide_eq_true rfl) ?_
  repeat (first | refine wIf_t rfl ?_ | refine wIf_f rfl ?_)
  refine leads_ok n s ?_
  repeat (first | refine wIf_t rfl ?_ | refine wIf_f rfl ?_)
  refine rleads_ok n s ?_
  repeat (first | refine wIf_t rfl ?_ | refine wIf_f rfl ?_)
  refine wIf_t (by simp) ?_
  repeat (first | refine wIf_t rfl ?_ | refine wIf_f rfl ?_)
  refine free_ok n s d ?_
  repeat (first | refine wIf_t rfl ?_ | refine wIf_f rfl ?_)
  refine rfree_ok n s d ?_
  repeat (first | refine wIf_t rfl ?_ | refine wIf_f rfl ?_)
  refine wIf_t (by simp) ?_
  repeat (first | refine wIf_t rfl ?_ | refine wIf_f rfl ?_)
  refine due_ok n s ?_
  repeat (first | refine wIf_t rfl ?_ | refine wIf_f rfl ?_)
  refine rdue_ok n s ?_
  repeat (first | refine wIf_t rfl ?_ | refine wIf_f rfl ?_)
  refine wIf_t (by simp) ?_
  repeat (first | refine wIf_t rfl ?_ | refine wIf_f rfl ?_)
  refine leads_ok n s ?_
  repeat (first | refine wIf_t rfl ?_ | refine wIf_f rfl ?_)
  refine wIf_s (fun c1 => ?_) (fun c1 => ?_)
  · repeat (first | refine wIf_t rfl ?_ | refine wIf_f rfl ?_)
    refine free_ok n s 1000 ?_
    have : freeI n s 1000 = false := by
      simp only [leadsI, decide_eq_true_eq] at c1
      simp only [freeI, Bool.and_eq_false_iff, decide_eq_false_iff_not]
      right; right; omega
    rw [this]
    repeat (first | refine wIf_t rfl ?_ | refine wIf_f rfl ?_)
    exact hk
  · repeat (first | refine wIf_t rfl ?_ | refine wIf_f rfl ?_)
    exact hk
end
end Go.Proofs.YtaddlnjgamlleaaGreat
