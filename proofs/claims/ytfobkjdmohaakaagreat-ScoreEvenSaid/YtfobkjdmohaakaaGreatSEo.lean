/-
ScoreEven, as the abstract run has it.
-/
import Derived.Test.YtfobkjdmohaakaaGreatFitH
namespace Go.Eng
open Go
theorem clipL {x : Int} (l m : Int) (hm : l ≤ m) : l ≤ maxI l (minI x m) ∧ maxI l (minI x m) ≤ m := by unfold maxI minI; split <;> split <;> omega
section
variable {P : Program} (hG : FnsOk P AF.fns.get)
include hG
set_option maxHeartbeats 4000000 in
set_option maxRecDepth 10000 in
/-- The scores of two nodes alike, one of them with a pod on it. -/
theorem scoreEven2 (f d : Int) (pack : Bool) (h1 : 100 ≤ f) (h2 : f ≤ 800) (h3 : 1 ≤ d) (h4 : d ≤ 100) :
    (two 1000 1000 [pN [120] 1 f [97] 1]).ok ∧ (pN [121] 2 d [] 0).fit ∧ feasD (two 1000 1000 [pN [120] 1 f [97] 1]) (pN [121] 2 d [] 0) [97] = true ∧ feasD (two 1000 1000 [pN [120] 1 f [97] 1]) (pN [121] 2 d [] 0) [98] = true ∧
    Pure P 26 [stV (two 1000 1000 [pN [120] 1 f [97] 1]), .agg (podR (pN [121] 2 d [] 0)), .s [97], .b pack] (· = .i .i64 (evenScore pack ((f + d) / 10) 1)) ∧
    Pure P 26 [stV (two 1000 1000 [pN [120] 1 f [97] 1]), .agg (podR (pN [121] 2 d [] 0)), .s [98], .b pack] (· = .i .i64 (evenScore pack (d / 10) 0)) := by
  have hs : (two 1000 1000 [pN [120] 1 f [97] 1]).ok := two_ok (fun q h => by rw [List.mem_singleton] at h; subst h; exact pN_fit (by unfold in64; omega)) (Nat.le_refl _)
  have hp : (pN [121] 2 d [] 0).fit := pN_fit (by unfold in64; omega)
  have ua : usedD (two 1000 1000 [pN [120] 1 f [97] 1]) [97] = some ⟨f, f, f⟩ := by
    show sumD ⟨0, 0, 0⟩ [⟨f, f, f⟩] = _
    rw [sumD, addD_t (by dsimp only; omega)]
    simp [sumD]
  have ub : usedD (two 1000 1000 [pN [120] 1 f [97] 1]) [98] = some ⟨0, 0, 0⟩ := rfl
  have z0 : ResD.ok ⟨0, 0, 0⟩ := by decide
  have zf : ResD.ok ⟨f, f, f⟩ := by unfold ResD.ok in64; dsimp only; omega
  have anti : ∀ q ∈ (two 1000 1000 [pN [120] 1 f [97] 1]).pods, q.anti = [] := fun q h => by
    have h : q ∈ [pN [120] 1 f [97] 1] := h
    rw [List.mem_singleton] at h; subst h; rfl
  have fa := feas_of (s := two 1000 1000 [pN [120] 1 f [97] 1]) (name := [121]) (uid := 2) (d := d) two_a (room_of ua rfl (by omega) (by omega) (by omega) (by decide)) rfl anti
  have fb := feas_of (s := two 1000 1000 [pN [120] 1 f [97] 1]) (name := [121]) (uid := 2) (d := d) two_b (room_of ub rfl (by omega) (by omega) (by omega) (by decide)) rfl anti
  have ada : addD ⟨f, f, f⟩ (pN [121] 2 d [] 0).req = some ⟨f + d, f + d, f + d⟩ := addD_t (by dsimp only [pN]; omega)
  have adb : addD ⟨0, 0, 0⟩ (pN [121] 2 d [] 0).req = some ⟨d, d, d⟩ := by
    rw [addD_t (by dsimp only [pN]; omega)]
    simp [pN]
  have xa : (100 * (f + d)).tdiv 1000 = (f + d) / 10 := by rw [Int.tdiv_eq_ediv_of_nonneg (by omega)]; omega
  have xb : (100 * d).tdiv 1000 = d / 10 := by rw [Int.tdiv_eq_ediv_of_nonneg (by omega)]; omega
  have sa := score_ok hG (two 1000 1000 [pN [120] 1 f [97] 1]) (pN [121] 2 d [] 0) [97] pack _ ⟨f, f, f⟩ _ 1000 (f + d) _ [pN [120] 1 f [97] 1] hs hp two_small fa two_a ua zf ada rfl rfl (by omega) xa (by omega) (show (1 : Nat) ≤ 10 by decide) (on_one hG _ _ _ pN_room rfl rfl)
  have sb := score_ok hG (two 1000 1000 [pN [120] 1 f [97] 1]) (pN [121] 2 d [] 0) [98] pack _ ⟨0, 0, 0⟩ _ 1000 d _ [] hs hp two_small fb two_b ub z0 adb rfl rfl (by omega) xb (by omega) (by decide) (on_not hG _ _ _ rfl)
  exact ⟨hs, hp, fa, fb, sa, sb⟩
set_option maxHeartbeats 4000000 in
set_option maxRecDepth 10000 in
theorem scoreEven_ok (hb : ACall P 21 [] noG (fun r _ => r = .b true)) (hcmp : ∀ (a b : Str) (h : Heap) (K : V → Heap → Prop), K (.i .i64 (cmpB a b)) h → ACall P 114 [.s a, .s b] h K) (fill need : Int) :
    ACall P 5 [.i .i64 fill, .i .i64 need] noG (fun r _ => r = .b true) := by
  obtain ⟨X, hX, hX1, hX2⟩ : ∃ X : Int, maxI 0 (minI fill 700) = X ∧ 0 ≤ X ∧ X ≤ 700 := ⟨_, rfl, clipL 0 _ (by decide)⟩
  obtain ⟨d, hd, hd1, hd2⟩ : ∃ d : Int, maxI 1 (minI need 100) = d ∧ 1 ≤ d ∧ d ≤ 100 := ⟨_, rfl, clipL 1 _ (by decide)⟩
  obtain ⟨hs, hp, fa, fb, sa, sb⟩ := scoreEven2 hG (100 + X) d false (by omega) (by omega) hd1 hd2
  obtain ⟨_, _, _, _, ta, tb⟩ := scoreEven2 hG (100 + X) d true (by omega) (by omega) hd1 hd2
  have hw := where2_ok hG hcmp _ _ _ _ _ _ _ _ hs hp two_small fa fb
  have b1 := best2_ok hG _ (pN [121] 2 d [] 0) false _ _ hw sa sb (by simp [evenScore]; omega) (by simp [evenScore]; omega)
  have b2 := best2_ok hG _ (pN [121] 2 d [] 0) true _ _ hw ta tb (by simp [evenScore]; omega) (by simp [evenScore]; omega)
  have l1 : evenScore false ((100 + X + d) / 10) 1 < evenScore false (d / 10) 0 := by simp [evenScore]; omega
  have l2 : ¬ evenScore true ((100 + X + d) / 10) 1 < evenScore true (d / 10) 0 := by simp [evenScore]; omega
  rw [if_pos l1] at b1
  rw [if_neg l2] at b2
  clear hw
  generalize evenScore false ((100 + X + d) / 10) 1 = u at sa l1
  generalize evenScore false (d / 10) 0 = v at sb l1
  refine fn_sz (hG _ AF.f5 rfl) rfl ?_
  ((conv => whnf); repeat ((first | refine SIf.ff rfl ?_ | refine SIf.tt rfl ?_ | refine SOpt.of rfl ?_ | refine SChk.mk rfl ?_ | refine SSame.mk rfl ?_ | refine SEx.of rfl ?_ | refine SOpt.no rfl ?_ | refine SWrap.w64 (by omega) (by omega) ?_ | refine SIf.dt (by omega) ?_ | refine SIf.df (by omega) ?_ | refine SIf.nt (by omega) ?_ | refine SIf.nf (by omega) ?_ | refine SChk.d (by omega) ?_ | refine SChk.ix (by omega) (by omega) ?_ | refine SChk.d3 (by omega) (by omega) (by omega) ?_) <;> (conv => whnf)))
  refine ⟨hb.frame rfl fun v h' hv => ?_⟩
  subst hv
  refine ⟨rfl, ?_⟩
  ((conv => whnf); repeat ((first | refine SOpt.of (mn2 (z := minI fill 700) rfl) ?_ | refine SOpt.of (mx2 (z := X) hX) ?_ | refine SOpt.of (mn2 (z := minI need 100) rfl) ?_ | refine SOpt.of (mx2 (z := d) hd) ?_ | refine SCall.app (Pure.call1 b1 (by ((repeat (first | exact trivial | refine ⟨by first | exact ce1_free rfl | exact .inl .nil | exact .inl .tok | exact .inl (.rows (by ((repeat (first | exact .nil | refine .cons (by ((repeat (first | exact .nil | refine .cons (by first | exact .refl _ | exact .nil _) ?_)); first | done | fail)) ?_)); first | done | fail))) | exact .inr (.inl ⟨_, _, rfl, rfl, (by ((repeat (first | exact trivial | refine ⟨by first | exact ce_flat rfl | exact .nil | exact .tok | exact .ren rfl (Nat.le_of_ble_eq_true rfl) | exact .rows (by ((repeat (first | exact .nil | refine .cons (by ((repeat (first | exact .nil | refine .cons (by first | exact .refl _ | exact .nil _) ?_)); first | done | fail)) ?_)); first | done | fail)), ?_⟩)); first | done | fail))⟩), ?_⟩)); first | done | fail)) rfl) ?_ | refine SCall.app (Pure.call1 b2 (by ((repeat (first | exact trivial | refine ⟨by first | exact ce1_free rfl | exact .inl .nil | exact .inl .tok | exact .inl (.rows (by ((repeat (first | exact .nil | refine .cons (by ((repeat (first | exact .nil | refine .cons (by first | exact .refl _ | exact .nil _) ?_)); first | done | fail)) ?_)); first | done | fail))) | exact .inr (.inl ⟨_, _, rfl, rfl, (by ((repeat (first | exact trivial | refine ⟨by first | exact ce_flat rfl | exact .nil | exact .tok | exact .ren rfl (Nat.le_of_ble_eq_true rfl) | exact .rows (by ((repeat (first | exact .nil | refine .cons (by ((repeat (first | exact .nil | refine .cons (by first | exact .refl _ | exact .nil _) ?_)); first | done | fail)) ?_)); first | done | fail)), ?_⟩)); first | done | fail))⟩), ?_⟩)); first | done | fail)) rfl) ?_ | refine SCall.app (Pure.call1 sa (by ((repeat (first | exact trivial | refine ⟨by first | exact ce1_free rfl | exact .inl .nil | exact .inl .tok | exact .inl (.rows (by ((repeat (first | exact .nil | refine .cons (by ((repeat (first | exact .nil | refine .cons (by first | exact .refl _ | exact .nil _) ?_)); first | done | fail)) ?_)); first | done | fail))) | exact .inr (.inl ⟨_, _, rfl, rfl, (by ((repeat (first | exact trivial | refine ⟨by first | exact ce_flat rfl | exact .nil | exact .tok | exact .ren rfl (Nat.le_of_ble_eq_true rfl) | exact .rows (by ((repeat (first | exact .nil | refine .cons (by ((repeat (first | exact .nil | refine .cons (by first | exact .refl _ | exact .nil _) ?_)); first | done | fail)) ?_)); first | done | fail)), ?_⟩)); first | done | fail))⟩), ?_⟩)); first | done | fail)) rfl) ?_ | refine SCall.app (Pure.call1 sb (by ((repeat (first | exact trivial | refine ⟨by first | exact ce1_free rfl | exact .inl .nil | exact .inl .tok | exact .inl (.rows (by ((repeat (first | exact .nil | refine .cons (by ((repeat (first | exact .nil | refine .cons (by first | exact .refl _ | exact .nil _) ?_)); first | done | fail)) ?_)); first | done | fail))) | exact .inr (.inl ⟨_, _, rfl, rfl, (by ((repeat (first | exact trivial | refine ⟨by first | exact ce_flat rfl | exact .nil | exact .tok | exact .ren rfl (Nat.le_of_ble_eq_true rfl) | exact .rows (by ((repeat (first | exact .nil | refine .cons (by ((repeat (first | exact .nil | refine .cons (by first | exact .refl _ | exact .nil _) ?_)); first | done | fail)) ?_)); first | done | fail)), ?_⟩)); first | done | fail))⟩), ?_⟩)); first | done | fail)) rfl) ?_ | refine SIf.ff rfl ?_ | refine SIf.tt rfl ?_ | refine SOpt.of rfl ?_ | refine SChk.mk rfl ?_ | refine SSame.mk rfl ?_ | refine SEx.of rfl ?_ | refine SOpt.no rfl ?_ | refine SWrap.w64 (by omega) (by omega) ?_ | refine SIf.dt (by omega) ?_ | refine SIf.df (by omega) ?_ | refine SIf.nt (by omega) ?_ | refine SIf.nf (by omega) ?_ | refine SChk.d (by omega) ?_ | refine SChk.ix (by omega) (by omega) ?_ | refine SChk.d3 (by omega) (by omega) (by omega) ?_) <;> (conv => whnf)))
  exact congrArg V.b (decide_eq_true l1)
end
end Go.Eng
