/-
Who leads: what the functions of elect and lease do.
-/
import Derived.Test.YtjoaahnmbonboaaGreatElec0
namespace Go.Eng
open Go
def bringI (t : Int) : Int := if 1152921504606846976 < (if t < 0 then 0 else t) then 1152921504606846976 else (if t < 0 then 0 else t)
theorem bring_in (t : Int) : 0 ≤ bringI t ∧ bringI t ≤ 1152921504606846976 := by unfold bringI; split <;> split <;> omega
def leadsI (n s : Int) : Bool := decide (bringI n < bringI s + 1000 - 100)
def freeI (n s d : Int) : Bool := decide (1 ≤ d) && (decide (d ≤ 1099511627776) && decide (d ≤ bringI n - bringI s))
def dueI (n s : Int) : Bool := decide (300 ≤ bringI n - bringI s)
def lateI (n a : Int) : Bool := decide (a ≤ n) && decide (200 ≤ IntKind.u64.wrap (IntKind.u64.wrap n - IntKind.u64.wrap a))

section
variable {P : Program} (hF : FnsOk P AF.fns.get)
include hF
section
variable {h : Heap} {K : V → Heap → Prop}
theorem bring_ok (t : Int) (hk : K (.i .i64 (bringI t)) h) : ACall P 74 [.i .i64 t] h K := fn_ok (hF 74 AF.f74 rfl) rfl hk
theorem until_ok (t : Int) (hk : K (.i .i64 (bringI t + 1000 - 100)) h) : ACall P 53 [.i .i64 t] h K := by
  have hb := bring_in t
  refine fn_sp (hF 53 AF.f53 rfl) rfl ?_
  (conv => whnf)
  refine ⟨bring_ok hF t ?_⟩
  ((conv => whnf); repeat (first | (refine SWrap.w64 (by omega) (by omega) ?_; conv => whnf) | (refine SIf.ff rfl ?_; conv => whnf) | (refine SIf.tt rfl ?_; conv => whnf) | (refine SOpt.of rfl ?_; conv => whnf) | (refine SChk.mk rfl ?_; conv => whnf) | (refine SSame.mk rfl ?_; conv => whnf) | (refine SEx.of rfl ?_; conv => whnf)))
  exact hk
theorem leads_ok (n s : Int) (hk : K (.b (leadsI n s)) h) : ACall P 66 [.i .i64 n, .i .i64 s] h K := by
  refine fn_sp (hF 66 AF.f66 rfl) rfl ?_
  (conv => whnf)
  refine ⟨bring_ok hF n ?_⟩
  (conv => whnf)
  refine ⟨until_ok hF s ?_⟩
  (conv => whnf)
  exact hk
theorem due_ok (n s : Int) (hk : K (.b (dueI n s)) h) : ACall P 31 [.i .i64 n, .i .i64 s] h K := by
  have h1 := bring_in n
  have h2 := bring_in s
  refine fn_sp (hF 31 AF.f31 rfl) rfl ?_
  (conv => whnf)
  refine ⟨bring_ok hF n ?_⟩
  (conv => whnf)
  refine ⟨bring_ok hF s ?_⟩
  ((conv => whnf); repeat (first | (refine SWrap.w64 (by omega) (by omega) ?_; conv => whnf) | (refine SIf.ff rfl ?_; conv => whnf) | (refine SIf.tt rfl ?_; conv => whnf) | (refine SOpt.of rfl ?_; conv => whnf) | (refine SChk.mk rfl ?_; conv => whnf) | (refine SSame.mk rfl ?_; conv => whnf) | (refine SEx.of rfl ?_; conv => whnf)))
  exact hk
theorem free_ok (n s d : Int) (hk : K (.b (freeI n s d)) h) : ACall P 101 [.i .i64 n, .i .i64 s, .i .i64 d] h K := by
  have h1 := bring_in n
  have h2 := bring_in s
  refine fn_sp (hF 101 AF.f101 rfl) rfl ?_
  unfold freeI at hk
  (conv => whnf)
  refine SIf.ds (fun c1 => ?_) (fun c1 => ?_)
  · rw [decide_eq_true c1] at hk
    ((conv => whnf); repeat (first | (refine SIf.ff rfl ?_; conv => whnf) | (refine SIf.tt rfl ?_; conv => whnf) | (refine SOpt.of rfl ?_; conv => whnf) | (refine SChk.mk rfl ?_; conv => whnf) | (refine SSame.mk rfl ?_; conv => whnf) | (refine SEx.of rfl ?_; conv => whnf)))
    refine SIf.ds (fun c2 => ?_) (fun c2 => ?_)
    · rw [decide_eq_true c2] at hk
      ((conv => whnf); repeat (first | (refine SIf.ff rfl ?_; conv => whnf) | (refine SIf.tt rfl ?_; conv => whnf) | (refine SOpt.of rfl ?_; conv => whnf) | (refine SChk.mk rfl ?_; conv => whnf) | (refine SSame.mk rfl ?_; conv => whnf) | (refine SEx.of rfl ?_; conv => whnf)))
      refine ⟨bring_ok hF n ?_⟩
      ((conv => whnf); repeat (first | (refine SIf.ff rfl ?_; conv => whnf) | (refine SIf.tt rfl ?_; conv => whnf) | (refine SOpt.of rfl ?_; conv => whnf) | (refine SChk.mk rfl ?_; conv => whnf) | (refine SSame.mk rfl ?_; conv => whnf) | (refine SEx.of rfl ?_; conv => whnf)))
      refine ⟨bring_ok hF s ?_⟩
      ((conv => whnf); repeat (first | (refine SWrap.w64 (by omega) (by omega) ?_; conv => whnf) | (refine SIf.ff rfl ?_; conv => whnf) | (refine SIf.tt rfl ?_; conv => whnf) | (refine SOpt.of rfl ?_; conv => whnf) | (refine SChk.mk rfl ?_; conv => whnf) | (refine SSame.mk rfl ?_; conv => whnf) | (refine SEx.of rfl ?_; conv => whnf)))
      exact hk
    · rw [decide_eq_false c2] at hk
      ((conv => whnf); repeat (first | (refine SIf.ff rfl ?_; conv => whnf) | (refine SIf.tt rfl ?_; conv => whnf) | (refine SOpt.of rfl ?_; conv => whnf) | (refine SChk.mk rfl ?_; conv => whnf) | (refine SSame.mk rfl ?_; conv => whnf) | (refine SEx.of rfl ?_; conv => whnf)))
      exact hk
  · rw [decide_eq_false c1] at hk
    ((conv => whnf); repeat (first | (refine SIf.ff rfl ?_; conv => whnf) | (refine SIf.tt rfl ?_; conv => whnf) | (refine SOpt.of rfl ?_; conv => whnf) | (refine SChk.mk rfl ?_; conv => whnf) | (refine SSame.mk rfl ?_; conv => whnf) | (refine SEx.of rfl ?_; conv => whnf)))
    exact hk
theorem late_ok (n a : Int) (hk : K (.b (lateI n a)) h) : ACall P 59 [.i .i64 n, .i .i64 a] h K := by
  refine fn_sp (hF 59 AF.f59 rfl) rfl ?_
  unfold lateI at hk
  (conv => whnf)
  refine SIf.ds (fun c1 => ?_) (fun c1 => ?_)
  · rw [decide_eq_true c1] at hk
    ((conv => whnf); repeat (first | (refine SWrap.mk ?_; conv => whnf) | (refine SIf.ff rfl ?_; conv => whnf) | (refine SIf.tt rfl ?_; conv => whnf) | (refine SOpt.of rfl ?_; conv => whnf) | (refine SChk.mk rfl ?_; conv => whnf) | (refine SSame.mk rfl ?_; conv => whnf) | (refine SEx.of rfl ?_; conv => whnf)))
    exact hk
  · rw [decide_eq_false c1] at hk
    ((conv => whnf); repeat (first | (refine SIf.ff rfl ?_; conv => whnf) | (refine SIf.tt rfl ?_; conv => whnf) | (refine SOpt.of rfl ?_; conv => whnf) | (refine SChk.mk rfl ?_; conv => whnf) | (refine SSame.mk rfl ?_; conv => whnf) | (refine SEx.of rfl ?_; conv => whnf)))
    exact hk
end
theorem bring_id {h : Heap} {K : V → Heap → Prop} (t : Int) (h1 : 0 ≤ t) (h2 : t ≤ 1152921504606846976) (hk : K (.i .i64 t) h) : ACall P 74 [.i .i64 t] h K := by
  refine bring_ok hF t ?_
  have : bringI t = t := by unfold bringI; split <;> split <;> omega
  rw [this]
  exact hk
end
end Go.Eng
