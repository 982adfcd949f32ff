/-
ClockLike, as the abstract run has it.
-/
import Derived.Test.YtaddlnjgamlleaaGreatClk2
import Derived.Test.YtaddlnjgamlleaaGreatAh
namespace Go.Eng
open Go
theorem tm8 (n : Int) : -7 ≤ n.tmod 8 ∧ n.tmod 8 ≤ 7 := by
  have h1 := Int.tmod_add_mul_tdiv n 8
  have h2 := Int.natAbs_tmod n 8
  have h3 : (n.tmod 8).natAbs < 8 := by rw [h2]; exact Nat.mod_lt _ (by decide)
  omega
theorem clampN_nat {m : Nat} (h1 : 1 ≤ m) (h2 : m ≤ 8) : clampN (m : Int) = m := by
  have := clampN_in (m : Int)
  have h3 := this.2.2
  split at h3 <;> split at h3 <;> omega
def likeNow (t s : Int) (j : Nat) : Int := if j = 0 then t + s else t
def likeLo (m : Nat) (s : Int) (p : Nat) : Int := if p % 8 = 0 ∧ p / 8 ≠ 0 ∧ p / 8 < m then -s else 0
def likeHi (m : Nat) (s : Int) (p : Nat) : Int := if p / 8 = 0 ∧ p % 8 ≠ 0 ∧ p % 8 < m then s else 0
theorem tickLo_like {m : Nat} {s t' s' : Int} (hs : 0 ≤ s) (hs' : s ≤ s') {N : Nat → Int} (hN : ∀ j, j < m → N j = likeNow t' s' j) (p : Nat) : tickLo m N (likeLo m s) p = likeLo m s' p := by
  unfold tickLo likeLo minI
  by_cases hc : p / 8 < m ∧ p % 8 < m
  · rw [if_pos hc, hN _ hc.1, hN _ hc.2]
    unfold likeNow
    by_cases h1 : p % 8 = 0 <;> by_cases h2 : p / 8 = 0
    all_goals simp only [h1, h2, hc, if_true, if_false, true_and, false_and, not_true, not_false_iff, ne_eq, and_true]
    all_goals (repeat' split)
    all_goals omega
  · rw [if_neg hc, if_neg (by omega), if_neg (by omega)]
theorem tickHi_like {m : Nat} {s t' s' : Int} (hs : 0 ≤ s) (hs' : s ≤ s') {N : Nat → Int} (hN : ∀ j, j < m → N j = likeNow t' s' j) (p : Nat) : tickHi m N (likeHi m s) p = likeHi m s' p := by
  unfold tickHi likeHi maxI
  by_cases hc : p / 8 < m ∧ p % 8 < m
  · rw [if_pos hc, hN _ hc.1, hN _ hc.2]
    unfold likeNow
    by_cases h1 : p % 8 = 0 <;> by_cases h2 : p / 8 = 0
    all_goals simp only [h1, h2, hc, if_true, if_false, true_and, false_and, not_true, not_false_iff, ne_eq, and_true]
    all_goals (repeat' split)
    all_goals omega
  · rw [if_neg hc, if_neg (by omega), if_neg (by omega)]
theorem like_drift {m : Nat} (h1 : 1 ≤ m) (hm : m ≤ 8) {s d : Int} (hs : 0 ≤ s) (h0 : 0 ≤ d) (ha : ∀ i j, i < m → j < m → likeHi m s (i * 8 + j) - likeLo m s (i * 8 + j) ≤ d)
    (hb : d = 0 ∨ ∃ i j, i < m ∧ j < m ∧ d = likeHi m s (i * 8 + j) - likeLo m s (i * 8 + j)) : d = if 1 < m then s else 0 := by
  have key : ∀ i j, i < m → j < m → likeHi m s (i * 8 + j) - likeLo m s (i * 8 + j) = if (i = 0 ∧ j ≠ 0) ∨ (i ≠ 0 ∧ j = 0) then s else 0 := by
    intro i j hi hj
    unfold likeHi likeLo
    have e1 : (i * 8 + j) / 8 = i := by omega
    have e2 : (i * 8 + j) % 8 = j := by omega
    rw [e1, e2]
    by_cases h1 : i = 0 <;> by_cases h2 : j = 0
    all_goals simp [h1, h2, hi, hj]
  split
  · have h2 := ha 0 1 (by omega) (by omega)
    rw [key 0 1 (by omega) (by omega)] at h2
    simp at h2
    rcases hb with rfl | ⟨i, j, hi, hj, h3⟩
    · omega
    · rw [key i j hi hj] at h3
      split at h3 <;> omega
  · rcases hb with rfl | ⟨i, j, hi, hj, h3⟩
    · rfl
    · rw [key i j hi hj, if_neg (by omega)] at h3
      exact h3
section
variable {P : Program} (hF : FnsOk P AF.fns.get) (hG : FnsOk P AF.hns.get)
include hF
theorem like_tick {h : Heap} {c k m b : Nat} {t s e f : Int} {a : Nat → Int} (hm : m ≤ 8) (hck : c ≠ k) (hbk : b ≠ k) (hs : 0 ≤ s) (ht : 0 ≤ t) (he : 0 ≤ e) (hf : 0 ≤ f) (hef : e + f ≤ 1000000)
    (hst : t + s + 1000000 ≤ 1125899906842624) (hc : h.get c = some (.cs (clkC k m (likeLo m s) (likeHi m s)))) (hk : h.get k = some (.arr 1 (arrI m (likeNow t s)))) (hb : h.get b = some (.arr 1 (arrI m a)))
    (ha : ∀ j, j < m → a j = if j = 0 then e + f else e) {K : V → Heap → Prop}
    (hK : ∀ h', Heap.Keeps (fun j => j = c ∨ j = k) h h' → h'.get c = some (.cs (clkC k m (likeLo m (s + f)) (likeHi m (s + f)))) → h'.get k = some (.arr 1 (arrI m (likeNow (t + e) (s + f)))) → K (.b true) h') :
    ACall P 21 [.p (.g c) 0, .ms (.g b) 1 0 m] h K := by
  have hN : ∀ j, j < m → tickNow (min m m) (likeNow t s) a j = likeNow (t + e) (s + f) j := by
    intro j hj
    unfold tickNow likeNow
    rw [if_pos (by omega), ha j hj]
    split <;> omega
  refine tick_ms hF hc hk hck hm hb (Nat.le_refl _) hbk (fun i _ => by unfold likeNow; split <;> omega) (fun hn => ?_) (fun _ h' hkp hc' hk' => ?_)
  · exfalso
    refine hn fun i hi => ?_
    rw [ha i (by omega)]
    unfold likeNow
    split <;> omega
  · refine hK h' hkp ?_ ?_
    · rw [hc', clkC_congr (fun p _ => tickLo_like hs (by omega) hN p) (fun p _ => tickHi_like hs (by omega) hN p)]
    · rw [hk', arrI_congr hN]
theorem like_dr {h : Heap} {c k m : Nat} {s : Int} (hm1 : 1 ≤ m) (hm : m ≤ 8) (hs : 0 ≤ s) (hs2 : s ≤ 1000000) (hc : h.get c = some (.cs (clkC k m (likeLo m s) (likeHi m s)))) {K : V → Heap → Prop}
    (hK : K (.i .i64 (if 1 < m then s else 0)) h) : ACall P 23 [.p (.g c) 0] h K := by
  have hbnd : ∀ i j, i < m → j < m → -2251799813685248 ≤ likeLo m s (i * 8 + j) ∧ likeLo m s (i * 8 + j) ≤ 2251799813685248 ∧ -2251799813685248 ≤ likeHi m s (i * 8 + j) ∧ likeHi m s (i * 8 + j) ≤ 2251799813685248 := by
    intro i j _ _
    unfold likeLo likeHi
    repeat' split
    all_goals omega
  refine drift_ok hF hc hm hbnd fun d h0 h1 h2 => ?_
  rw [like_drift hm1 hm hs h0 h1 h2]
  exact hK
include hG
theorem clockLike_ok (hb : ACall P 20 [] noG (fun r _ => r = .b true)) (n off : Int) (na : Nat) (av : Nat → Int) {h : Heap} {K : V → Heap → Prop} (hK : ∀ h, K (.b true) h) :
    ACall P 6 [.i .i64 n, .sl none 1 (arrI na av), .i .i64 off] h K := by
  have t1 := tm8 n
  have t2 := tm8 (n.tmod 8 + 8)
  refine fn_sp (hG 6 AF.f6 rfl) rfl ?_
  (conv => whnf)
  refine ⟨hb.frame rfl fun v h' hv => ?_⟩
  subst hv
  refine ⟨rfl, ?_⟩
  ((conv => whnf); repeat (first | (refine SWrap.w64 (by omega) (by omega) ?_; conv => whnf) | (refine SIf.ff rfl ?_; conv => whnf) | (refine SIf.tt rfl ?_; conv => whnf) | (refine SOpt.of rfl ?_; conv => whnf) | (refine SChk.mk rfl ?_; conv => whnf) | (refine SEx.of rfl ?_; conv => whnf)))
  have t0 : 0 ≤ (n.tmod 8 + 8).tmod 8 := Int.tmod_nonneg _ (by omega)
  obtain ⟨m, hm, hm1, hm8⟩ : ∃ m : Nat, 1 + (n.tmod 8 + 8).tmod 8 = (m : Int) ∧ 1 ≤ m ∧ m ≤ 8 := ⟨(1 + (n.tmod 8 + 8).tmod 8).toNat, by omega, by omega, by omega⟩
  rw [hm]
  refine ⟨new_ok (h := h) hF (m : Int) fun h1 hkp hnx hc hk => ?_⟩
  rw [clampN_nat hm1 hm8] at hc hk
  have hck : h.next + 1 ≠ h.next := by omega
  have hcl : h.next + 1 < h1.next := by omega
  have hkl : h.next < h1.next := by omega
  clear hkp hnx
  generalize h.next + 1 = c at *
  generalize h.next = k at *
  obtain ⟨O, hO, hO1, hO2⟩ : ∃ O : Int, O = maxI 0 (minI off 1000) ∧ 0 ≤ O ∧ O ≤ 1000 := ⟨_, rfl, by unfold maxI minI; split <;> split <;> omega, by unfold maxI minI; split <;> split <;> omega⟩
  ((conv => whnf); repeat (first | (refine SOpt.of (mn2 (z := minI off 1000) rfl) ?_; conv => whnf) | (refine SOpt.of (mx2 (z := O) hO.symm) ?_; conv => whnf) | (refine SIf.ff rfl ?_; conv => whnf) | (refine SIf.tt rfl ?_; conv => whnf) | (refine SOpt.of rfl ?_; conv => whnf) | (refine SChk.mk rfl ?_; conv => whnf) | (refine SEx.of rfl ?_; conv => whnf)))
  clear t1 t2 t0
  refine SLoop.by (fun q fr st => ∃ (i : Nat) (h : Heap) (t s : Int), i ≤ 30 ∧ q = 30 - i ∧ c < h.next ∧ k < h.next ∧ 0 ≤ s ∧ s ≤ 1000 * i ∧ 0 ≤ t ∧ t ≤ 100000 * i ∧
      h.get c = some (.cs (clkC k m (likeLo m s) (likeHi m s))) ∧ h.get k = some (.arr 1 (arrI m (likeNow t s))) ∧
      Fr.le [(10, .i .i64 i), (9, .i .i64 (if 1 < m then s else 0)), (8, .p (.g c) 0), (2, .i .i64 O), (1, .sl none 1 (arrI na av)), (0, .i .i64 (m : Nat))] fr ∧ st = gst h)
    30 ⟨0, h1, 0, 0, by omega, rfl, hcl, hkl, by omega, by omega, by omega, by omega, by rw [hc, clkC_congr (lo' := likeLo m 0) (hi' := likeHi m 0) (fun p _ => by simp [likeLo]) (fun p _ => by simp [likeHi])], by rw [hk, arrI_congr (g := likeNow 0 0) fun j _ => by simp [likeNow]],
      Fr.le_cons rfl (Fr.le_cons (by simp; rfl) (by repeat (first | exact Fr.le_nil | refine Fr.le_cons rfl ?_))), rfl⟩ ?_
  clear hcl hkl hc hk
  rintro q fr st ⟨i, h, t, s, hi, rfl, hcl, hkl, hs0, hs1, ht0, ht1, hc, hk, hle, rfl⟩
  refine ⟨_, hle, fun R hR => ?_⟩
  clear hle h1
  have hl := arrI_len na av
  ((conv => whnf); repeat (first | (refine SIf.ff rfl ?_; conv => whnf) | (refine SIf.tt rfl ?_; conv => whnf) | (refine SOpt.of rfl ?_; conv => whnf) | (refine SChk.mk rfl ?_; conv => whnf) | (refine SEx.of rfl ?_; conv => whnf)))
  refine SIf.ds (fun hlt => ?_) (fun hge => ?_)
  · ((conv => whnf); repeat (first | (refine SIf.ff rfl ?_; conv => whnf) | (refine SIf.tt rfl ?_; conv => whnf) | (refine SOpt.of rfl ?_; conv => whnf) | (refine SChk.mk rfl ?_; conv => whnf) | (refine SEx.of rfl ?_; conv => whnf)))
    refine SIf.ds (fun hlt2 => ?_) (fun hge2 => ?_)
    · obtain ⟨D, hD, hD1, hD2⟩ : ∃ D : Int, D = maxI 0 (minI (av i) 100000) ∧ 0 ≤ D ∧ D ≤ 100000 := ⟨_, rfl, by unfold maxI minI; split <;> split <;> omega, by unfold maxI minI; split <;> split <;> omega⟩
      ((conv => whnf); repeat (first | (refine SChk.ix (by omega) (by omega) ?_; conv => whnf) | (refine SOpt.of (mn2 (z := minI (av i) 100000) rfl) ?_; conv => whnf) | (refine SOpt.of (mx2 (z := D) hD.symm) ?_; conv => whnf) | (refine SChk.mk (by simp [roomOk]; omega) ?_; conv => whnf) | (refine SEx.of (x := arrI m fun _ => 0) (by rw [rep_arrI]; exact own_arrI _ _ _) ?_; conv => whnf) | (refine SIf.ff rfl ?_; conv => whnf) | (refine SIf.tt rfl ?_; conv => whnf) | (refine SOpt.of rfl ?_; conv => whnf) | (refine SChk.mk rfl ?_; conv => whnf) | (refine SEx.of (arrI_get (j := i) (by simp) (by omega)) ?_; conv => whnf) | (refine SEx.of rfl ?_; conv => whnf)))
      rw [arrI_len]
      obtain ⟨b, hbd⟩ : ∃ b, b = h.next := ⟨_, rfl⟩
      have hbc : b ≠ c := by omega
      have hbk : b ≠ k := by omega
      refine SLoop.by (fun q fr st => ∃ (j : Nat) (h2 : Heap), j ≤ m ∧ q = m - j ∧ h2.next = h.next + 1 ∧ h2.get b = some (.arr 1 (arrI m fun q => if q < j then D else 0)) ∧
          h2.get c = some (.cs (clkC k m (likeLo m s) (likeHi m s))) ∧ h2.get k = some (.arr 1 (arrI m (likeNow t s))) ∧
          Fr.le [(47, .i .i64 j), (46, .i .i64 m), (12, .ms (.g b) 1 0 m), (11, .i .i64 D), (10, .i .i64 i), (9, .i .i64 (if 1 < m then s else 0)), (8, .p (.g c) 0), (2, .i .i64 O), (1, .sl none 1 (arrI na av)), (0, .i .i64 (m : Nat))] fr ∧ st = gst h2)
        m ⟨0, h.push (.arr 1 (arrI m fun _ => 0)), by omega, rfl, rfl, by rw [hbd, Heap.get_push_self, arrI_congr (f := fun _ => 0) (g := fun q => if q < 0 then D else 0) fun j _ => by simp], Heap.gp (by omega) hc, Heap.gp (by omega) hk, by rw [hbd]; exact (by repeat (first | exact Fr.le_nil | refine Fr.le_cons rfl ?_)), rfl⟩ ?_
      rintro q fr st ⟨j, h2, hj, rfl, hn2, hb2, hc2, hk2, hle, rfl⟩
      refine ⟨_, hle, fun R2 hR2 => ?_⟩
      clear hle
      ((conv => whnf); repeat (first | (refine SIf.ff rfl ?_; conv => whnf) | (refine SIf.tt rfl ?_; conv => whnf) | (refine SOpt.of rfl ?_; conv => whnf) | (refine SChk.mk rfl ?_; conv => whnf) | (refine SEx.of rfl ?_; conv => whnf)))
      refine SIf.ds (fun hlt3 => ?_) (fun hge3 => ?_)
      · have hset : arrI m (fun q => if q = j then D else (if q < j then D else 0)) = arrI m fun q => if q < j + 1 then D else 0 := arrI_congr fun q _ => by
          repeat' split
          all_goals omega
        ((conv => whnf); repeat (first | (refine SChk.ix (by omega) (by omega) ?_; conv => whnf) | (refine SWrap.w64 (by omega) (by omega) ?_; conv => whnf) | (refine SEx.of (congrArg some ((arrI_set (j := j) (by simp) _).trans hset)) ?_; conv => whnf) | (refine SIf.ff rfl ?_; conv => whnf) | (refine SIf.tt rfl ?_; conv => whnf) | (refine SOpt.of rfl ?_; conv => whnf) | (refine SChk.mk rfl ?_; conv => whnf) | (refine SEx.of (hb2) ?_; conv => whnf) | (refine SEx.of (arrI_get (j := j) (by simp) (by omega)) ?_; conv => whnf) | (refine SEx.of rfl ?_; conv => whnf)))
        exact hR2 (m - (j + 1)) _ _ (by omega) ⟨j + 1, h2.set b _, by omega, rfl, hn2, Heap.get_set_self hb2, Heap.gs hbc.symm hc2, Heap.gs hbk.symm hk2, (by repeat (first | exact Fr.le_nil | refine Fr.le_cons rfl ?_)), rfl⟩
      · obtain rfl : m = j := by omega
        clear hR2 hc hk
        (conv => whnf)
        refine ⟨like_tick (e := D) (f := 0) hF hm8 hck hbk hs0 ht0 hD1 (Int.le_refl _) (by omega) (by omega) hc2 hk2 hb2 (fun j hj => by rw [if_pos hj]; split <;> omega) fun h3 hkp3 hc3 hk3 => ?_⟩
        rw [Int.add_zero] at hc3 hk3
        have hn3 := hkp3.next
        ((conv => whnf); repeat (first | (refine SIf.ff rfl ?_; conv => whnf) | (refine SIf.tt rfl ?_; conv => whnf) | (refine SOpt.of rfl ?_; conv => whnf) | (refine SChk.mk rfl ?_; conv => whnf) | (refine SEx.of rfl ?_; conv => whnf)))
        refine ⟨like_dr hF hm1 hm8 hs0 (by omega) hc3 ?_⟩
        ((conv => whnf); repeat (first | (refine SIf.nf rfl ?_; conv => whnf) | (refine SIf.ff rfl ?_; conv => whnf) | (refine SIf.tt rfl ?_; conv => whnf) | (refine SOpt.of rfl ?_; conv => whnf) | (refine SChk.mk rfl ?_; conv => whnf) | (refine SEx.of rfl ?_; conv => whnf)))
        refine SIf.ds (fun h73 => ?_) (fun h73 => ?_)
        · have hset : arrI m (fun q => if q = 0 then O else 0) = arrI m (fun q => if q = 0 then 0 + O else 0) := arrI_congr fun q _ => by split <;> omega
          ((conv => whnf); repeat (first | (refine SChk.ix (by omega) (by rw [arrI_len]; omega) ?_; conv => whnf) | (refine SChk.mk (by simp [roomOk]; omega) ?_; conv => whnf) | (refine SEx.of (x := arrI m fun _ => 0) (by rw [rep_arrI]; exact own_arrI _ _ _) ?_; conv => whnf) | (refine SEx.of (congrArg some ((arrI_set (j := 0) (by simp) _).trans hset)) ?_; conv => whnf) | (refine SIf.ff rfl ?_; conv => whnf) | (refine SIf.tt rfl ?_; conv => whnf) | (refine SOpt.of rfl ?_; conv => whnf) | (refine SChk.mk rfl ?_; conv => whnf) | (refine SEx.of (Heap.get_push_self _ _) ?_; conv => whnf) | (refine SEx.of (arrI_get (j := 0) (by simp) (by omega)) ?_; conv => whnf) | (refine SEx.of rfl ?_; conv => whnf)))
          rw [arrI_len]
          have hbc' : h3.next ≠ c := by omega
          have hbk' : h3.next ≠ k := by omega
          refine ⟨(?_ : ACall P 21 [.p (.g c) 0, .ms (.g h3.next) 1 0 m] ((h3.push (.arr 1 (arrI m fun _ => 0))).set h3.next (.arr 1 (arrI m fun q => if q = 0 then 0 + O else 0))) _)⟩
          refine like_tick (b := h3.next) (e := 0) (f := O) hF hm8 hck hbk' hs0 (by omega) (Int.le_refl _) hO1 (by omega) (by omega) (Heap.gs hbc'.symm (Heap.gp (by omega) hc3)) (Heap.gs hbk'.symm (Heap.gp (by omega) hk3))
            (Heap.get_set_self (Heap.get_push_self _ _)) (fun _ _ => rfl) fun h4 hkp4 hc4 hk4 => ?_
          rw [Int.add_zero] at hk4
          have hn4 : h3.next + 1 ≤ h4.next := hkp4.next
          ((conv => whnf); repeat (first | (refine SIf.ff rfl ?_; conv => whnf) | (refine SIf.tt rfl ?_; conv => whnf) | (refine SOpt.of rfl ?_; conv => whnf) | (refine SChk.mk rfl ?_; conv => whnf) | (refine SEx.of rfl ?_; conv => whnf)))
          refine SIf.ds (fun hm2 => ?_) (fun hm2 => ?_)
          · have hm2' : 1 < m := by omega
            rw [if_pos hm2']
            ((conv => whnf); repeat (first | (refine SWrap.w64 (by omega) (by omega) ?_; conv => whnf) | (refine SIf.ff rfl ?_; conv => whnf) | (refine SIf.tt rfl ?_; conv => whnf) | (refine SOpt.of rfl ?_; conv => whnf) | (refine SChk.mk rfl ?_; conv => whnf) | (refine SEx.of rfl ?_; conv => whnf)))
            refine ⟨like_dr hF hm1 hm8 (by omega) (by omega) hc4 ?_⟩
            rw [if_pos hm2']
            ((conv => whnf); repeat (first | (refine SIf.nf rfl ?_; conv => whnf) | (refine SWrap.w64 (by omega) (by omega) ?_; conv => whnf) | (refine SIf.ff rfl ?_; conv => whnf) | (refine SIf.tt rfl ?_; conv => whnf) | (refine SOpt.of rfl ?_; conv => whnf) | (refine SChk.mk rfl ?_; conv => whnf) | (refine SEx.of rfl ?_; conv => whnf)))
            exact hR (30 - (i + 1)) _ _ (by omega) ⟨i + 1, h4, t + D, s + O, by omega, rfl, by omega, by omega, by omega, by omega, by omega, by omega, hc4, hk4, Fr.le_cons rfl (Fr.le_cons (by rw [if_pos hm2']; rfl) (by repeat (first | exact Fr.le_nil | refine Fr.le_cons rfl ?_))), rfl⟩
          · have hm2' : ¬ 1 < m := by omega
            rw [if_neg hm2']
            ((conv => whnf); repeat (first | (refine SIf.ff rfl ?_; conv => whnf) | (refine SIf.tt rfl ?_; conv => whnf) | (refine SOpt.of rfl ?_; conv => whnf) | (refine SChk.mk rfl ?_; conv => whnf) | (refine SEx.of rfl ?_; conv => whnf)))
            refine ⟨like_dr hF hm1 hm8 (by omega) (by omega) hc4 ?_⟩
            rw [if_neg hm2']
            ((conv => whnf); repeat (first | (refine SIf.nf rfl ?_; conv => whnf) | (refine SWrap.w64 (by omega) (by omega) ?_; conv => whnf) | (refine SIf.ff rfl ?_; conv => whnf) | (refine SIf.tt rfl ?_; conv => whnf) | (refine SOpt.of rfl ?_; conv => whnf) | (refine SChk.mk rfl ?_; conv => whnf) | (refine SEx.of rfl ?_; conv => whnf)))
            exact hR (30 - (i + 1)) _ _ (by omega) ⟨i + 1, h4, t + D, s + O, by omega, rfl, by omega, by omega, by omega, by omega, by omega, by omega, hc4, hk4, Fr.le_cons rfl (Fr.le_cons (by rw [if_neg hm2']; rfl) (by repeat (first | exact Fr.le_nil | refine Fr.le_cons rfl ?_))), rfl⟩
        · ((conv => whnf); repeat (first | (refine SWrap.w64 (by omega) (by omega) ?_; conv => whnf) | (refine SIf.ff rfl ?_; conv => whnf) | (refine SIf.tt rfl ?_; conv => whnf) | (refine SOpt.of rfl ?_; conv => whnf) | (refine SChk.mk rfl ?_; conv => whnf) | (refine SEx.of rfl ?_; conv => whnf)))
          exact hR (30 - (i + 1)) _ _ (by omega) ⟨i + 1, h3, t + D, s, by omega, rfl, by omega, by omega, by omega, by omega, by omega, by omega, hc3, hk3, (by repeat (first | exact Fr.le_nil | refine Fr.le_cons rfl ?_)), rfl⟩
    · ((conv => whnf); repeat (first | (refine SIf.ff rfl ?_; conv => whnf) | (refine SIf.tt rfl ?_; conv => whnf) | (refine SOpt.of rfl ?_; conv => whnf) | (refine SChk.mk rfl ?_; conv => whnf) | (refine SEx.of rfl ?_; conv => whnf)))
      exact hK _
  · ((conv => whnf); repeat (first | (refine SIf.ff rfl ?_; conv => whnf) | (refine SIf.tt rfl ?_; conv => whnf) | (refine SOpt.of rfl ?_; conv => whnf) | (refine SChk.mk rfl ?_; conv => whnf) | (refine SEx.of rfl ?_; conv => whnf)))
    exact hK _
end
end Go.Eng
