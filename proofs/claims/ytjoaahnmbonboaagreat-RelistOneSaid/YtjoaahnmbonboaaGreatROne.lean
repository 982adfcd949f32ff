/-
RelistOne, as the abstract run has it.
-/
import Derived.Test.YtjoaahnmbonboaaGreatElec0
import Derived.Test.YtjoaahnmbonboaaGreatAg
namespace Go.Eng
open Go
section
variable {P : Program} (hF : FnsOk P AF.fns.get) (hG : FnsOk P AF.gns.get)
include hF hG
set_option maxHeartbeats 4000000 in
theorem relistOne_ok (hb : ACall P 11 [] noG (fun r _ => r = .b true)) (me rev wait other : Int) : ACall P 3 [.i .i64 me, .i .i64 rev, .i .i64 wait, .i .i64 other] noG (fun r _ => r = .b true) := by
  obtain ⟨R, hR, hR1, hR2⟩ : ∃ R : Int, R = maxI 0 (minI rev 1099511627776) ∧ 0 ≤ R ∧ R ≤ 1099511627776 := ⟨_, rfl, clip_in _ (by decide)⟩
  obtain ⟨W, hW, hW1, hW2⟩ : ∃ W : Int, W = maxI 0 (minI wait 1000) ∧ 0 ≤ W ∧ W ≤ 1000 := ⟨_, rfl, clip_in _ (by decide)⟩
  have hne : me < 0 ∨ 7 < me ∨ (me + 1).tmod 8 < me ∨ me < (me + 1).tmod 8 := by
    by_cases h0 : 0 ≤ me
    · rw [Int.tmod_eq_emod_of_nonneg (by omega)]
      omega
    · omega
  refine fn_sf (hG 3 AF.f3 rfl) rfl ?_
  (conv => whnf)
  refine ⟨hb.frame rfl fun v h' hv => ?_⟩
  subst hv
  refine ⟨rfl, ?_⟩
  ((conv => whnf); repeat' (first | (refine SOpt.of (mn2 (z := minI rev 1099511627776) rfl) ?_; conv => whnf) | (refine SOpt.of (mn2 (z := minI wait 1000) rfl) ?_; conv => whnf) | (refine SOpt.of (mx2 (z := R) hR.symm) ?_; conv => whnf) | (refine SOpt.of (mx2 (z := W) hW.symm) ?_; conv => whnf) | (refine SIf.ff rfl ?_; conv => whnf) | (refine SIf.tt rfl ?_; conv => whnf) | (refine SOpt.of rfl ?_; conv => whnf) | (refine SChk.mk rfl ?_; conv => whnf) | (refine SSame.mk rfl ?_; conv => whnf) | (refine SEx.of rfl ?_; conv => whnf) | (refine SOpt.no rfl ?_; conv => whnf) | (refine SLoopB.un rfl ?_; conv => whnf) | (refine SWrap.w64 (by omega) (by omega) ?_; conv => whnf) | (refine SIf.dt (by omega) ?_; conv => whnf) | (refine SIf.df (by omega) ?_; conv => whnf) | (refine SIf.nt (by omega) ?_; conv => whnf) | (refine SIf.nf (by omega) ?_; conv => whnf) | (refine SChk.d (by omega) ?_; conv => whnf) | (refine SChk.d3 (by omega) (by omega) (by omega) ?_; conv => whnf) | (refine SWrap.wu (by omega) (by omega) ?_; conv => whnf) | (refine SWrap.of (by decide) (by decide) ?_; conv => whnf) | (refine SWrap.mk ?_; conv => whnf) | (refine SCall.mk (fn_sf (hF _ _ rfl) rfl ?_); conv => whnf) | (refine SCall.mk (fn_sf (hG _ _ rfl) rfl ?_); conv => whnf) | (refine SIf.tt (by first | (simp; done) | (simp; omega)) ?_; conv => whnf) | (refine SIf.ff (by first | (simp; done) | (simp; omega)) ?_; conv => whnf) | (refine SIf.ds (fun _ => ?_) (fun _ => ?_) <;> conv => whnf) | (refine SIf.ns (fun _ => ?_) (fun _ => ?_) <;> conv => whnf)))
  all_goals first | rfl | exact congrArg V.b (decide_eq_true (by omega)) | (exfalso; omega)
end
end Go.Eng
