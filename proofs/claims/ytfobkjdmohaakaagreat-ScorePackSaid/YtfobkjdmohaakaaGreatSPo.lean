/-
ScorePack, as the abstract run has it.
-/
import Derived.Test.YtfobkjdmohaakaaGreatFitH
namespace Go.Eng
open Go
theorem clip0 {x : Int} (m : Int) (hm : 0 ≤ m) : 0 ≤ maxI 0 (minI x m) ∧ maxI 0 (minI x m) ≤ m := by unfold maxI minI; split <;> split <;> omega
section
variable {P : Program} (hG : FnsOk P AF.fns.get)
include hG
set_option maxHeartbeats 4000000 in
set_option maxRecDepth 10000 in
/-- The best one of two empty nodes, the second one the lesser. -/
theorem bestPack_ok (hcmp : ∀ (a b : Str) (h : Heap) (K : V → Heap → Prop), K (.i .i64 (cmpB a b)) h → ACall P 114 [.s a, .s b] h K) (g c d : Int) (pack : Bool) (h1 : 1 ≤ c) (h2 : g ≤ 1000000000) (h3 : 2 * c ≤ g) (h4 : 0 ≤ d) (h5 : d ≤ c) (h6 : c ≤ 100 * d) :
    Pure P 17 [stV (two g c []), .agg (podR (pN [112] 1 d [] 0)), .b pack] (· = .tup [.s (if pack then [98] else [97]), .b true]) := by
  have hs : (two g c []).ok := two_ok (fun _ h => by cases h) (Nat.zero_le _)
  have hp : (pN [112] 1 d [] 0).fit := pN_fit (by unfold in64; omega)
  have ua : ∀ name, usedD (two g c []) name = some ⟨0, 0, 0⟩ := fun _ => rfl
  have z0 : ResD.ok ⟨0, 0, 0⟩ := by decide
  have fa := feas_of (s := two g c []) (name := [112]) (uid := 1) (d := d) two_a (room_of (ua _) rfl (by omega) h4 (by omega) h2) rfl (fun _ h => by cases h)
  have fb := feas_of (s := two g c []) (name := [112]) (uid := 1) (d := d) two_b (room_of (ua _) rfl (by omega) h4 (by omega) (by omega)) rfl (fun _ h => by cases h)
  have xa := share_in (m := d) (c := g) h4 (by omega) (by omega)
  have xb := share_in (m := d) (c := c) h4 h5 h1
  have xl := share_lt h1 h6 h3
  have ad : addD ⟨0, 0, 0⟩ (pN [112] 1 d [] 0).req = some ⟨d, d, d⟩ := by
    rw [addD_t (by dsimp only [pN]; omega)]
    simp [pN]
  have sa := score_ok hG (two g c []) (pN [112] 1 d [] 0) [97] pack _ ⟨0, 0, 0⟩ _ g d _ [] hs hp two_small fa two_a (ua _) z0 ad rfl rfl (by omega) rfl xa (Nat.zero_le _) (on_none hG _ _)
  have sb := score_ok hG (two g c []) (pN [112] 1 d [] 0) [98] pack _ ⟨0, 0, 0⟩ _ c d _ [] hs hp two_small fb two_b (ua _) z0 ad rfl rfl (by omega) rfl xb (Nat.zero_le _) (on_none hG _ _)
  generalize (100 * d).tdiv g = u at sa xa xl
  generalize (100 * d).tdiv c = v at sb xb xl
  have hb := best2_ok hG (two g c []) (pN [112] 1 d [] 0) pack _ _ (where2_ok hG hcmp _ _ _ _ _ _ _ _ hs hp two_small fa fb) sa sb (by cases pack <;> simp [evenScore] <;> omega) (by cases pack <;> simp [evenScore] <;> omega)
  have he : (if evenScore pack u ((List.length ([] : List PodD) : Nat) : Int) < evenScore pack v ((List.length ([] : List PodD) : Nat) : Int) then ([98] : Str) else [97]) = if pack then [98] else [97] := by
    cases pack
    · rw [if_neg (by simp [evenScore]; omega)]; rfl
    · rw [if_pos (by simp [evenScore]; omega)]; rfl
  rw [he] at hb
  exact hb
set_option maxHeartbeats 4000000 in
set_option maxRecDepth 10000 in
theorem scorePack_ok (hb : ACall P 21 [] noG (fun r _ => r = .b true)) (hcmp : ∀ (a b : Str) (h : Heap) (K : V → Heap → Prop), K (.i .i64 (cmpB a b)) h → ACall P 114 [.s a, .s b] h K) (size more need : Int) :
    ACall P 4 [.i .i64 size, .i .i64 more, .i .i64 need] noG (fun r _ => r = .b true) := by
  obtain ⟨X, hX, hX1, hX2⟩ : ∃ X : Int, maxI 0 (minI size 10000) = X ∧ 0 ≤ X ∧ X ≤ 10000 := ⟨_, rfl, clip0 _ (by decide)⟩
  obtain ⟨Y, hY, hY1, hY2⟩ : ∃ Y : Int, maxI 0 (minI more 5) = Y ∧ 0 ≤ Y ∧ Y ≤ 5 := ⟨_, rfl, clip0 _ (by decide)⟩
  have t2 : 2 * (100 + X).tdiv 2 ≤ 100 + X ∧ 0 ≤ (100 + X).tdiv 2 := by rw [Int.tdiv_eq_ediv_of_nonneg (by omega)]; omega
  have t10 : 10 * (100 + X).tdiv 10 ≤ 100 + X ∧ 100 + X < 10 * (100 + X).tdiv 10 + 10 := by rw [Int.tdiv_eq_ediv_of_nonneg (by omega)]; omega
  obtain ⟨Z, hZ, hZ1, hZ2⟩ : ∃ Z : Int, maxI 0 (minI need ((100 + X).tdiv 2)) = Z ∧ 0 ≤ Z ∧ Z ≤ (100 + X).tdiv 2 := ⟨_, rfl, clip0 _ t2.2⟩
  have hg : 2 * (100 + X) ≤ (100 + X) * (2 + Y) ∧ (100 + X) * (2 + Y) ≤ 70700 := by
    have : Y = 0 ∨ Y = 1 ∨ Y = 2 ∨ Y = 3 ∨ Y = 4 ∨ Y = 5 := by omega
    rcases this with rfl | rfl | rfl | rfl | rfl | rfl <;> omega
  have b1 := bestPack_ok hG hcmp ((100 + X) * (2 + Y)) (100 + X) ((100 + X).tdiv 10 + Z) true (by omega) (by omega) hg.1 (by omega) (by omega) (by omega)
  have b2 := bestPack_ok hG hcmp ((100 + X) * (2 + Y)) (100 + X) ((100 + X).tdiv 10 + Z) false (by omega) (by omega) hg.1 (by omega) (by omega) (by omega)
  refine fn_sz (hG _ AF.f4 rfl) rfl ?_
  ((conv => whnf); repeat ((first | refine SIf.ff rfl ?_ | refine SIf.tt rfl ?_ | refine SOpt.of rfl ?_ | refine SChk.mk rfl ?_ | refine SSame.mk rfl ?_ | refine SEx.of rfl ?_ | refine SOpt.no rfl ?_ | refine SWrap.w64 (by omega) (by omega) ?_ | refine SIf.dt (by omega) ?_ | refine SIf.df (by omega) ?_ | refine SIf.nt (by omega) ?_ | refine SIf.nf (by omega) ?_ | refine SChk.d (by omega) ?_ | refine SChk.ix (by omega) (by omega) ?_ | refine SChk.d3 (by omega) (by omega) (by omega) ?_) <;> (conv => whnf)))
  refine ⟨hb.frame rfl fun v h' hv => ?_⟩
  subst hv
  refine ⟨rfl, ?_⟩
  ((conv => whnf); repeat ((first | refine SOpt.of (mn2 (z := minI size 10000) rfl) ?_ | refine SOpt.of (mx2 (z := X) hX) ?_ | refine SOpt.of (mn2 (z := minI more 5) rfl) ?_ | refine SOpt.of (mx2 (z := Y) hY) ?_ | refine SOpt.of (mn2 (z := minI need ((100 + X).tdiv 2)) rfl) ?_ | refine SOpt.of (mx2 (z := Z) hZ) ?_ | refine SWrap.w64 (by omega) (by exact Int.le_trans hg.2 (by decide)) ?_ | refine SCall.app (Pure.call1 b1 (by ((repeat (first | exact trivial | refine ⟨by first | exact ce1_free rfl | exact .inl .nil | exact .inl .tok | exact .inl (.rows (by ((repeat (first | exact .nil | refine .cons (by ((repeat (first | exact .nil | refine .cons (by first | exact .refl _ | exact .nil _) ?_)); first | done | fail)) ?_)); first | done | fail))) | exact .inr (.inl ⟨_, _, rfl, rfl, (by ((repeat (first | exact trivial | refine ⟨by first | exact ce_flat rfl | exact .nil | exact .tok | exact .ren rfl (Nat.le_of_ble_eq_true rfl) | exact .rows (by ((repeat (first | exact .nil | refine .cons (by ((repeat (first | exact .nil | refine .cons (by first | exact .refl _ | exact .nil _) ?_)); first | done | fail)) ?_)); first | done | fail)), ?_⟩)); first | done | fail))⟩), ?_⟩)); first | done | fail)) rfl) ?_ | refine SCall.app (Pure.call1 b2 (by ((repeat (first | exact trivial | refine ⟨by first | exact ce1_free rfl | exact .inl .nil | exact .inl .tok | exact .inl (.rows (by ((repeat (first | exact .nil | refine .cons (by ((repeat (first | exact .nil | refine .cons (by first | exact .refl _ | exact .nil _) ?_)); first | done | fail)) ?_)); first | done | fail))) | exact .inr (.inl ⟨_, _, rfl, rfl, (by ((repeat (first | exact trivial | refine ⟨by first | exact ce_flat rfl | exact .nil | exact .tok | exact .ren rfl (Nat.le_of_ble_eq_true rfl) | exact .rows (by ((repeat (first | exact .nil | refine .cons (by ((repeat (first | exact .nil | refine .cons (by first | exact .refl _ | exact .nil _) ?_)); first | done | fail)) ?_)); first | done | fail)), ?_⟩)); first | done | fail))⟩), ?_⟩)); first | done | fail)) rfl) ?_ | refine SIf.ff rfl ?_ | refine SIf.tt rfl ?_ | refine SOpt.of rfl ?_ | refine SChk.mk rfl ?_ | refine SSame.mk rfl ?_ | refine SEx.of rfl ?_ | refine SOpt.no rfl ?_ | refine SWrap.w64 (by omega) (by omega) ?_ | refine SIf.dt (by omega) ?_ | refine SIf.df (by omega) ?_ | refine SIf.nt (by omega) ?_ | refine SIf.nf (by omega) ?_ | refine SChk.d (by omega) ?_ | refine SChk.ix (by omega) (by omega) ?_ | refine SChk.d3 (by omega) (by omega) (by omega) ?_) <;> (conv => whnf)))
  rfl
end
end Go.Eng
