/-
ClockAll, as the abstract run has it.
-/
import Derived.Test.YtaddlnjgamlleaaGreatClk4
namespace Go.Eng
open Go
section
variable {P : Program} (hF : FnsOk P AF.fns.get) (hG : FnsOk P AF.hns.get)
include hF hG
theorem clockAll_ok (hb : ACall P 20 [] noG (fun r _ => r = .b true)) (n : Int) (na : Nat) (ln : Nat → Nat) (av : Nat → Nat → Int) {h : Heap} {K : V → Heap → Prop} (hK : ∀ h, K (.b true) h) :
    ACall P 9 [.i .i64 n, .sl none 1 (arrR na ln av)] h K := by
  have hla := arrR_len na ln av
  refine fn_sp (hG 9 AF.f9 rfl) rfl ?_
  (conv => whnf)
  refine ⟨hb.frame rfl fun v h' hv => ?_⟩
  subst hv
  refine ⟨rfl, ?_⟩
  ((conv => whnf); repeat (first | (refine SIf.ff rfl ?_; conv => whnf) | (refine SIf.tt rfl ?_; conv => whnf) | (refine SOpt.of rfl ?_; conv => whnf) | (refine SChk.mk rfl ?_; conv => whnf) | (refine SEx.of rfl ?_; conv => whnf)))
  obtain ⟨hm1, hm8, _⟩ := clampN_in n
  obtain ⟨m, hmd⟩ : ∃ m, m = clampN n := ⟨_, rfl⟩
  refine ⟨new_ok (h := h) hF n fun h1 hkp hnx hc hk => ?_⟩
  rw [← hmd] at hc hk hm1 hm8
  have hck : h.next + 1 ≠ h.next := by omega
  have hcl : h.next + 1 < h1.next := by omega
  have hkl : h.next < h1.next := by omega
  clear hkp hnx h'
  generalize h.next + 1 = c at *
  generalize h.next = k at *
  ((conv => whnf); repeat (first | (refine SIf.ff rfl ?_; conv => whnf) | (refine SIf.tt rfl ?_; conv => whnf) | (refine SOpt.of rfl ?_; conv => whnf) | (refine SChk.mk rfl ?_; conv => whnf) | (refine SEx.of rfl ?_; conv => whnf)))
  refine ⟨rnew_ok (h := h1) hG n fun h2 r q wk hkp2 A => ?_⟩
  rw [← hmd] at A
  have hc2 := (hkp2.same c hcl (fun h => h)).trans hc
  have hk2 := (hkp2.same k hkl (fun h => h)).trans hk
  have hn2 := hkp2.next
  clear hkp2 hc hk
  generalize h1.next = b0 at *
  ((conv => whnf); repeat (first | (refine SIf.ff rfl ?_; conv => whnf) | (refine SIf.tt rfl ?_; conv => whnf) | (refine SOpt.of rfl ?_; conv => whnf) | (refine SChk.mk rfl ?_; conv => whnf) | (refine SEx.of rfl ?_; conv => whnf)))
  refine SLoop.by (fun z fr st => ∃ (i T q : Nat) (wk : Nat → Nat) (h : Heap) (w : Nat → Nat → Int) (lo hi : Nat → Int), i ≤ 20 ∧ T ≤ i ∧ z = 20 - i ∧ b0 ≤ h.next ∧ Lows m T w lo hi ∧ (∀ t x, t ≤ T → x < m → 0 ≤ w t x ∧ w t x ≤ 1125899906842624) ∧
      h.get c = some (.cs (clkC k m lo hi)) ∧ h.get k = some (.arr 1 (arrI m (w T))) ∧ RefAt b0 h r m T w q wk ∧
      Fr.le [(8, .i .i64 i), (7, .p (.g r) 0), (6, .p (.g c) 0), (1, .sl none 1 (arrR na ln av))] fr ∧ st = gst h)
    20 ⟨0, 0, q, wk, h2, fun _ _ => 0, fun _ => 0, fun _ => 0, by omega, by omega, rfl, hn2, .start m, fun _ _ _ _ => by simp, hc2, hk2, A, (by repeat (first | exact Fr.le_nil | refine Fr.le_cons rfl ?_)), rfl⟩ ?_
  clear hn2 hc2 hk2 A q wk
  rintro z fr st ⟨i, T, q, wk, h, w, lo, hi, hi20, hTi, rfl, hbn, hlw, hw, hc, hk, A, hle, rfl⟩
  refine ⟨_, hle, fun R hR => ?_⟩
  clear hle
  ((conv => whnf); repeat (first | (refine SIf.ff rfl ?_; conv => whnf) | (refine SIf.tt rfl ?_; conv => whnf) | (refine SOpt.of rfl ?_; conv => whnf) | (refine SChk.mk rfl ?_; conv => whnf) | (refine SEx.of rfl ?_; conv => whnf)))
  refine SIf.ds (fun hlt => ?_) (fun hge => ?_)
  · ((conv => whnf); repeat (first | (refine SIf.ff rfl ?_; conv => whnf) | (refine SIf.tt rfl ?_; conv => whnf) | (refine SOpt.of rfl ?_; conv => whnf) | (refine SChk.mk rfl ?_; conv => whnf) | (refine SEx.of rfl ?_; conv => whnf)))
    refine SIf.ds (fun hlt2 => ?_) (fun hge2 => ?_)
    · obtain ⟨L, hL⟩ : ∃ L, L = min (ln i) 10 := ⟨_, rfl⟩
      have hlA := arrI_len L (av i)
      have hlT := arrI_len (ln i) (av i)
      have hwT : ∀ x, x < m → 0 ≤ w T x ∧ w T x ≤ 1125899906842624 := fun x hx => hw T x (Nat.le_refl _) hx
      ((conv => whnf); repeat (first | (refine SChk.ix (by omega) (by omega) ?_; conv => whnf) | (refine SOpt.of (mn2 (z := (L : Int)) (by split <;> omega)) ?_; conv => whnf) | (refine SChk.d3 (by omega) (by omega) (by omega) ?_; conv => whnf) | (refine SEx.of (x := arrI L (av i)) (by rw [← arrI_take L (by omega : L ≤ ln i)]; rfl) ?_; conv => whnf) | (refine SIf.ff rfl ?_; conv => whnf) | (refine SIf.tt rfl ?_; conv => whnf) | (refine SOpt.of rfl ?_; conv => whnf) | (refine SChk.mk rfl ?_; conv => whnf) | (refine SEx.of (arrR_get (j := i) (by omega) (by omega)) ?_; conv => whnf) | (refine SEx.of rfl ?_; conv => whnf)))
      refine ⟨tick_ok hF hc hk hck hm8 hwT (fun hno => ?_) (fun hyes h3 hkp3 hc3 hk3 => ?_)⟩
      focus
        ((conv => whnf); repeat (first | (refine SIf.ff rfl ?_; conv => whnf) | (refine SIf.tt rfl ?_; conv => whnf) | (refine SOpt.of rfl ?_; conv => whnf) | (refine SChk.mk rfl ?_; conv => whnf) | (refine SEx.of rfl ?_; conv => whnf)))
        refine ⟨rtick_ok hG A (by omega) hm1 hm8 hwT (fun _ h4 hkp4 => ?_) (fun hyes => absurd hyes hno)⟩
        have A4 := A.keep hkp4 (fun _ h => h.elim)
        have hc4 := (hkp4.same c (by omega) (fun h => h)).trans hc
        have hk4 := (hkp4.same k (by omega) (fun h => h)).trans hk
        have hn4 := hkp4.next
        have hT4 : T ≤ i + 1 := by omega
        clear hkp4 hwT hno A hc hk
      rotate_left
      focus
        ((conv => whnf); repeat (first | (refine SIf.ff rfl ?_; conv => whnf) | (refine SIf.tt rfl ?_; conv => whnf) | (refine SOpt.of rfl ?_; conv => whnf) | (refine SChk.mk rfl ?_; conv => whnf) | (refine SEx.of rfl ?_; conv => whnf)))
        refine ⟨rtick_ok hG (A.keep hkp3 (fun j hj => by omega)) (by omega) hm1 hm8 hwT (fun hno => absurd hyes hno) (fun _ h4 q4 wk4 hkp4 A4 => ?_)⟩
        have hn3 := hkp3.next
        have hc4 := (hkp4.same c (by omega) (by omega)).trans hc3
        have hk4 := (hkp4.same k (by omega) (by omega)).trans hk3
        have hn4 : h.next ≤ h4.next := Nat.le_trans hn3 hkp4.next
        have hlw := hlw.tick (N := tickNow (min L m) (w T) (av i)) hm8
        have hT4 : T + 1 ≤ i + 1 := by omega
        have hw : ∀ t x, t ≤ T + 1 → x < m → 0 ≤ addW w (T + 1) (tickNow (min L m) (w T) (av i)) t x ∧ addW w (T + 1) (tickNow (min L m) (w T) (av i)) t x ≤ 1125899906842624 := by
          intro t x ht hx
          by_cases htt : t = T + 1
          · subst htt
            rw [addW_new]
            have h1 := hwT x hx
            unfold tickNow
            split
            · have := hyes x (by omega)
              omega
            · exact h1
          · rw [addW_old (by omega)]
            exact hw t x (by omega) hx
        rw [← addW_new (w := w) (T := T + 1) (N := tickNow (min L m) (w T) (av i))] at hk4
        clear hkp4 hwT hyes A hc hk hc3 hk3 hkp3
      all_goals
        ((conv => whnf); repeat (first | (refine SIf.ff rfl ?_; conv => whnf) | (refine SIf.tt rfl ?_; conv => whnf) | (refine SOpt.of rfl ?_; conv => whnf) | (refine SChk.mk rfl ?_; conv => whnf) | (refine SEx.of rfl ?_; conv => whnf)))
        refine ⟨drift_ok hF hc4 hm8 (fun _ _ hx hy => hlw.in hw hx hy) fun e e0 e1 e2 => ?_⟩
        ((conv => whnf); repeat (first | (refine SIf.ff rfl ?_; conv => whnf) | (refine SIf.tt rfl ?_; conv => whnf) | (refine SOpt.of rfl ?_; conv => whnf) | (refine SChk.mk rfl ?_; conv => whnf) | (refine SEx.of rfl ?_; conv => whnf)))
        refine ⟨rdrift_ok hG A4 (by omega) hm8 hw fun d hd => ?_⟩
        have hed := drift_eq hlw hd e0 e1 e2
        clear hd e0 e1 e2
        subst hed
        ((conv => whnf); repeat (first | (refine SIf.nf rfl ?_; conv => whnf) | (refine SIf.ff rfl ?_; conv => whnf) | (refine SIf.tt rfl ?_; conv => whnf) | (refine SOpt.of rfl ?_; conv => whnf) | (refine SChk.mk rfl ?_; conv => whnf) | (refine SEx.of rfl ?_; conv => whnf)))
        refine SLoop.by (fun z fr st => ∃ (j : Nat), j ≤ 10 ∧ z = 10 - j ∧ Fr.le [(10, .i .i64 ((j : Int) - 1)), (8, .i .i64 i), (7, .p (.g r) 0), (6, .p (.g c) 0), (1, .sl none 1 (arrR na ln av))] fr ∧ st = gst h4)
          10 ⟨0, by omega, rfl, (by repeat (first | exact Fr.le_nil | refine Fr.le_cons rfl ?_)), rfl⟩ ?_
        rintro z fr st ⟨j, hj, rfl, hle, rfl⟩
        refine ⟨_, hle, fun R2 hR2 => ?_⟩
        clear hle
        ((conv => whnf); repeat (first | (refine SIf.ff rfl ?_; conv => whnf) | (refine SIf.tt rfl ?_; conv => whnf) | (refine SOpt.of rfl ?_; conv => whnf) | (refine SChk.mk rfl ?_; conv => whnf) | (refine SEx.of rfl ?_; conv => whnf)))
        refine SIf.ds (fun hjlt => ?_) (fun hjge => ?_)
        · ((conv => whnf); repeat (first | (refine SIf.ff rfl ?_; conv => whnf) | (refine SIf.tt rfl ?_; conv => whnf) | (refine SOpt.of rfl ?_; conv => whnf) | (refine SChk.mk rfl ?_; conv => whnf) | (refine SEx.of rfl ?_; conv => whnf)))
          refine ⟨now_ok hF hc4 hk4 _ fun x hx1 hx2 => ?_⟩
          ((conv => whnf); repeat (first | (refine SIf.ff rfl ?_; conv => whnf) | (refine SIf.tt rfl ?_; conv => whnf) | (refine SOpt.of rfl ?_; conv => whnf) | (refine SChk.mk rfl ?_; conv => whnf) | (refine SEx.of rfl ?_; conv => whnf)))
          refine ⟨rnow_ok hG A4 (by omega) _ fun y hy1 hy2 => ?_⟩
          have hxy : x = y := by
            by_cases hr : 0 ≤ (j : Int) - 1 ∧ (j : Int) - 1 < m
            · rw [hx1 hr.1 hr.2, hy1 hr.1 hr.2]
            · rw [hx2 (by omega), hy2 (by omega)]
          subst hxy
          ((conv => whnf); repeat (first | (refine SIf.nf rfl ?_; conv => whnf) | (refine SWrap.w64 (by omega) (by omega) ?_; conv => whnf) | (refine SIf.ff rfl ?_; conv => whnf) | (refine SIf.tt rfl ?_; conv => whnf) | (refine SOpt.of rfl ?_; conv => whnf) | (refine SChk.mk rfl ?_; conv => whnf) | (refine SEx.of rfl ?_; conv => whnf)))
          exact hR2 (10 - (j + 1)) _ _ (by omega) ⟨j + 1, by omega, rfl, Fr.le_cons (by show V.i .i64 ((j : Int) - 1 + 1) = _; congr 1; omega) (by repeat (first | exact Fr.le_nil | refine Fr.le_cons rfl ?_)), rfl⟩
        · ((conv => whnf); repeat (first | (refine SWrap.w64 (by omega) (by omega) ?_; conv => whnf) | (refine SIf.ff rfl ?_; conv => whnf) | (refine SIf.tt rfl ?_; conv => whnf) | (refine SOpt.of rfl ?_; conv => whnf) | (refine SChk.mk rfl ?_; conv => whnf) | (refine SEx.of rfl ?_; conv => whnf)))
          exact hR (20 - (i + 1)) _ _ (by omega) ⟨i + 1, _, _, _, h4, _, _, _, by omega, hT4, rfl, by omega, hlw, hw, hc4, hk4, A4, (by repeat (first | exact Fr.le_nil | refine Fr.le_cons rfl ?_)), rfl⟩
    · ((conv => whnf); repeat (first | (refine SIf.ff rfl ?_; conv => whnf) | (refine SIf.tt rfl ?_; conv => whnf) | (refine SOpt.of rfl ?_; conv => whnf) | (refine SChk.mk rfl ?_; conv => whnf) | (refine SEx.of rfl ?_; conv => whnf)))
      exact hK _
  · ((conv => whnf); repeat (first | (refine SIf.ff rfl ?_; conv => whnf) | (refine SIf.tt rfl ?_; conv => whnf) | (refine SOpt.of rfl ?_; conv => whnf) | (refine SChk.mk rfl ?_; conv => whnf) | (refine SEx.of rfl ?_; conv => whnf)))
    exact hK _
end
end Go.Eng
