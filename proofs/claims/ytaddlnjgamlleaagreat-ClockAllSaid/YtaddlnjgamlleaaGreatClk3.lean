/-
How far clocks drifted, over any span: by the histories, by the greatest and the least.
-/
import Derived.Test.YtaddlnjgamlleaaGreatClk2
namespace Go.Eng
open Go
/-- All moments: so many more than one; of each its clocks. -/
def spanV (w : Nat → Nat → Int) (i k x y : Nat) : Int := (w i x - w k x) - (w i y - w k y)
def spanS (m i k x y : Nat) : Nat → Nat → Nat → Nat → Prop := fun i' k' x' y' => x' < m ∧ y' < m ∧ k' < i' ∧ (i' < i ∨ i' = i ∧ (k' < k ∨ k' = k ∧ (x' < x ∨ x' = x ∧ y' < y)))
structure Sofar (m T : Nat) (w : Nat → Nat → Int) (S : Nat → Nat → Nat → Nat → Prop) (d : Int) : Prop where
  nn : 0 ≤ d
  ub : ∀ i k x y, S i k x y → spanV w i k x y ≤ d
  eq : d = 0 ∨ ∃ i k x y, i ≤ T ∧ k ≤ T ∧ x < m ∧ y < m ∧ d = spanV w i k x y
theorem Sofar.mono {m T : Nat} {w : Nat → Nat → Int} {S S' : Nat → Nat → Nat → Nat → Prop} {d : Int} (h : Sofar m T w S d) (hs : ∀ i k x y, S' i k x y → S i k x y) : Sofar m T w S' d :=
  ⟨h.nn, fun i k x y hx => h.ub i k x y (hs i k x y hx), h.eq⟩
theorem Sofar.more {m T : Nat} {w : Nat → Nat → Int} {i k x y : Nat} {d : Int} (h : Sofar m T w (spanS m i k x y) d) (hi : i ≤ T) (hk : k < i) (hx : x < m) (hy : y < m) : Sofar m T w (spanS m i k x (y + 1)) (maxI d (spanV w i k x y)) := by
  have h1 : d ≤ maxI d (spanV w i k x y) := by unfold maxI; split <;> omega
  have h2 : spanV w i k x y ≤ maxI d (spanV w i k x y) := by unfold maxI; split <;> omega
  have h3 : maxI d (spanV w i k x y) = d ∨ maxI d (spanV w i k x y) = spanV w i k x y := by unfold maxI; split <;> omega
  refine ⟨Int.le_trans h.nn h1, fun i' k' x' y' hs => ?_, ?_⟩
  · by_cases he : i' = i ∧ k' = k ∧ x' = x ∧ y' = y
    · obtain ⟨rfl, rfl, rfl, rfl⟩ := he
      exact h2
    · refine Int.le_trans (h.ub i' k' x' y' ?_) h1
      unfold spanS at hs ⊢
      omega
  · rcases h3 with h3 | h3
    · rw [h3]; exact h.eq
    · exact .inr ⟨i, k, x, y, hi, by omega, hx, hy, h3⟩
/-- The greatest and the least, over all moments. -/
structure Lows (m T : Nat) (w : Nat → Nat → Int) (lo hi : Nat → Int) : Prop where
  lo1 : ∀ x y t, x < m → y < m → t ≤ T → lo (x * 8 + y) ≤ w t x - w t y
  lo2 : ∀ x y, x < m → y < m → ∃ t, t ≤ T ∧ lo (x * 8 + y) = w t x - w t y
  hi1 : ∀ x y t, x < m → y < m → t ≤ T → w t x - w t y ≤ hi (x * 8 + y)
  hi2 : ∀ x y, x < m → y < m → ∃ t, t ≤ T ∧ hi (x * 8 + y) = w t x - w t y
def addW (w : Nat → Nat → Int) (T : Nat) (N : Nat → Int) (t : Nat) : Nat → Int := if t = T then N else w t
theorem addW_old {w : Nat → Nat → Int} {T t : Nat} {N : Nat → Int} (h : t < T) : addW w T N t = w t := by unfold addW; rw [if_neg (by omega)]
theorem addW_new {w : Nat → Nat → Int} {T : Nat} {N : Nat → Int} : addW w T N T = N := by unfold addW; rw [if_pos rfl]
theorem Lows.start (m : Nat) : Lows m 0 (fun _ _ => 0) (fun _ => 0) fun _ => 0 := ⟨fun _ _ _ _ _ _ => by simp, fun _ _ _ _ => ⟨0, by omega, by simp⟩, fun _ _ _ _ _ _ => by simp, fun _ _ _ _ => ⟨0, by omega, by simp⟩⟩
theorem Lows.tick {m T : Nat} {w : Nat → Nat → Int} {lo hi N : Nat → Int} (h : Lows m T w lo hi) (hm : m ≤ 8) : Lows m (T + 1) (addW w (T + 1) N) (tickLo m N lo) (tickHi m N hi) := by
  have e : ∀ x y, x < m → y < m → (x * 8 + y) / 8 = x ∧ (x * 8 + y) % 8 = y := fun x y hx hy => by omega
  have l : ∀ x y, x < m → y < m → tickLo m N lo (x * 8 + y) = minI (lo (x * 8 + y)) (N x - N y) := fun x y hx hy => by
    unfold tickLo; rw [(e x y hx hy).1, (e x y hx hy).2, if_pos ⟨hx, hy⟩]
  have g : ∀ x y, x < m → y < m → tickHi m N hi (x * 8 + y) = maxI (hi (x * 8 + y)) (N x - N y) := fun x y hx hy => by
    unfold tickHi; rw [(e x y hx hy).1, (e x y hx hy).2, if_pos ⟨hx, hy⟩]
  refine ⟨fun x y t hx hy ht => ?_, fun x y hx hy => ?_, fun x y t hx hy ht => ?_, fun x y hx hy => ?_⟩
  · rw [l x y hx hy]
    by_cases htt : t = T + 1
    · subst htt; rw [addW_new]; unfold minI; split <;> omega
    · rw [addW_old (by omega)]
      have := h.lo1 x y t hx hy (by omega)
      unfold minI; split <;> omega
  · rw [l x y hx hy]
    obtain ⟨t, ht, he⟩ := h.lo2 x y hx hy
    by_cases hc : N x - N y < lo (x * 8 + y)
    · exact ⟨T + 1, Nat.le_refl _, by rw [addW_new]; unfold minI; rw [if_pos hc]⟩
    · exact ⟨t, by omega, by rw [addW_old (by omega)]; unfold minI; rw [if_neg hc]; exact he⟩
  · rw [g x y hx hy]
    by_cases htt : t = T + 1
    · subst htt; rw [addW_new]; unfold maxI; split <;> omega
    · rw [addW_old (by omega)]
      have := h.hi1 x y t hx hy (by omega)
      unfold maxI; split <;> omega
  · rw [g x y hx hy]
    obtain ⟨t, ht, he⟩ := h.hi2 x y hx hy
    by_cases hc : hi (x * 8 + y) < N x - N y
    · exact ⟨T + 1, Nat.le_refl _, by rw [addW_new]; unfold maxI; rw [if_pos hc]⟩
    · exact ⟨t, by omega, by rw [addW_old (by omega)]; unfold maxI; rw [if_neg hc]; exact he⟩
/-- The two tell the same. -/
theorem drift_eq {m T : Nat} {w : Nat → Nat → Int} {lo hi : Nat → Int} (h : Lows m T w lo hi) {d e : Int} (hd : Sofar m T w (spanS m (T + 1) 0 0 0) d)
    (e0 : 0 ≤ e) (e1 : ∀ i j, i < m → j < m → hi (i * 8 + j) - lo (i * 8 + j) ≤ e) (e2 : e = 0 ∨ ∃ i j, i < m ∧ j < m ∧ e = hi (i * 8 + j) - lo (i * 8 + j)) : e = d := by
  have all : ∀ i k x y, i ≤ T → k ≤ T → x < m → y < m → spanV w i k x y ≤ d := by
    intro i k x y hi hk hx hy
    by_cases h1 : k < i
    · exact hd.ub i k x y (by unfold spanS; omega)
    · by_cases h2 : i < k
      · have := hd.ub k i y x (by unfold spanS; omega)
        unfold spanV at this ⊢
        omega
      · obtain rfl : i = k := by omega
        have := hd.nn
        unfold spanV
        omega
  have le1 : e ≤ d := by
    rcases e2 with rfl | ⟨x, y, hx, hy, he⟩
    · exact hd.nn
    · obtain ⟨t, ht, h1⟩ := h.hi2 x y hx hy
      obtain ⟨u, hu, h2⟩ := h.lo2 x y hx hy
      have := all t u x y ht hu hx hy
      unfold spanV at this
      omega
  have le2 : d ≤ e := by
    rcases hd.eq with rfl | ⟨i, k, x, y, hi, hk, hx, hy, he⟩
    · exact e0
    · have h1 := h.hi1 x y i hx hy hi
      have h2 := h.lo1 x y k hx hy hk
      have h3 := e1 x y hx hy
      unfold spanV at he
      omega
  omega
theorem Lows.in {m T : Nat} {w : Nat → Nat → Int} {lo hi : Nat → Int} (h : Lows m T w lo hi) (hw : ∀ t x, t ≤ T → x < m → 0 ≤ w t x ∧ w t x ≤ 1125899906842624) {x y : Nat} (hx : x < m) (hy : y < m) :
    -2251799813685248 ≤ lo (x * 8 + y) ∧ lo (x * 8 + y) ≤ 2251799813685248 ∧ -2251799813685248 ≤ hi (x * 8 + y) ∧ hi (x * 8 + y) ≤ 2251799813685248 := by
  obtain ⟨t, ht, h1⟩ := h.lo2 x y hx hy
  obtain ⟨u, hu, h2⟩ := h.hi2 x y hx hy
  have := hw t x ht hx
  have := hw t y ht hy
  have := hw u x hu hx
  have := hw u y hu hy
  omega
end Go.Eng
