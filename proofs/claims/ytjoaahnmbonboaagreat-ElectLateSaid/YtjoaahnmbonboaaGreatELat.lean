/-
ElectLate, as the abstract run has it.
-/
import Derived.Test.YtjoaahnmbonboaaGreatElec1
import Derived.Test.YtjoaahnmbonboaaGreatAg
namespace Go.Eng
open Go
section
variable {P : Program} (hF : FnsOk P AF.fns.get) (hG : FnsOk P AF.gns.get)
include hF hG
set_option maxHeartbeats 40000000 in
set_option maxRecDepth 100000 in
theorem electLate_ok (hb : ACall P 11 [] noG (fun r _ => r = .b true)) (rev elder holder : Int) : ACall P 7 [.i .i64 rev, .i .i64 elder, .i .i64 holder] noG (fun r _ => r = .b true) := by
  have t1 := tm8' holder
  have t2 := tm8' (holder.tmod 8 + 8)
  have t3 : 0 ≤ (holder.tmod 8 + 8).tmod 8 := Int.tmod_nonneg _ (by omega)
  obtain ⟨R, hR, hR1, hR2⟩ : ∃ R : Int, R = maxI 0 (minI rev 1073741824) ∧ 0 ≤ R ∧ R ≤ 1073741824 := ⟨_, rfl, clip_in _ (by decide)⟩
  obtain ⟨E, hE, hE1, hE2⟩ : ∃ E : Int, E = maxI 0 (minI elder (2 + R - 1)) ∧ 0 ≤ E ∧ E ≤ 2 + R - 1 := ⟨_, rfl, clip_in _ (by omega)⟩
  refine fn_sf (hG 7 AF.f7 rfl) rfl ?_
  (conv => whnf)
  refine ⟨hb.frame rfl fun v h' hv => ?_⟩
  subst hv
  refine ⟨rfl, ?_⟩
  ((conv => whnf); repeat' (first | (refine SOpt.of (mn2 (z := minI rev 1073741824) rfl) ?_; conv => whnf) | (refine SOpt.of (mx2 (z := R) hR.symm) ?_; conv => whnf) | (refine SOpt.of (mn2 (z := minI elder (2 + R - 1)) rfl) ?_; conv => whnf) | (refine SOpt.of (mx2 (z := E) hE.symm) ?_; conv => whnf) | (refine SCall.mk (bring_id hF _ (by omega) (by omega)) ?_; conv => whnf) | (refine SIf.ff rfl ?_; conv => whnf) | (refine SIf.tt rfl ?_; conv => whnf) | (refine SOpt.of rfl ?_; conv => whnf) | (refine SChk.mk rfl ?_; conv => whnf) | (refine SSame.mk rfl ?_; conv => whnf) | (refine SEx.of rfl ?_; conv => whnf) | (refine SOpt.no rfl ?_; conv => whnf) | (refine SLoopB.un rfl ?_; conv => whnf) | (refine SWrap.w64 (by omega) (by omega) ?_; conv => whnf) | (refine SIf.dt (by omega) ?_; conv => whnf) | (refine SIf.df (by omega) ?_; conv => whnf) | (refine SIf.nt (by omega) ?_; conv => whnf) | (refine SIf.nf (by omega) ?_; conv => whnf) | (refine SChk.d (by omega) ?_; conv => whnf) | (refine SChk.d3 (by omega) (by omega) (by omega) ?_; conv => whnf) | (refine SWrap.wu (by omega) (by omega) ?_; conv => whnf) | (refine SWrap.of (by decide) (by decide) ?_; conv => whnf) | (refine SWrap.mk ?_; conv => whnf) | (refine SCall.mk (fn_sf (hF _ _ rfl) rfl ?_); conv => whnf) | (refine SCall.mk (fn_sf (hG _ _ rfl) rfl ?_); conv => whnf) | (refine SIf.tt (by first | (simp; done) | (simp; omega)) ?_; conv => whnf) | (refine SIf.ff (by first | (simp; done) | (simp; omega)) ?_; conv => whnf) | (refine SIf.ds (fun _ => ?_) (fun _ => ?_) <;> conv => whnf) | (refine SIf.ns (fun _ => ?_) (fun _ => ?_) <;> conv => whnf)))
  all_goals first | rfl | exact congrArg V.b (by first | (simp; done) | (simp; omega)) | (exfalso; omega)
end
end Go.Eng
