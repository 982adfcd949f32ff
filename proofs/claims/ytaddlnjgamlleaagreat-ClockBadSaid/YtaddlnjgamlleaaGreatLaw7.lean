/-
ClockBad, as the abstract run has it.
-/
import Derived.Test.YtaddlnjgamlleaaGreatLaw6
namespace Go.Eng
open Go
def clampI (lo hi x : Int) : Int := maxI lo (minI x hi)
theorem clampI_in {lo hi : Int} (x : Int) (h : lo ≤ hi) : lo ≤ clampI lo hi x ∧ clampI lo hi x ≤ hi := by unfold clampI maxI minI; split <;> split <;> omega
def badL (ng : Nat) (gv : Nat → Int) (j q : Nat) : Int := if q < j ∧ q < ng then clampI 0 1000000 (gv q) else 0
theorem badL_in (ng : Nat) (gv : Nat → Int) (j q : Nat) : 0 ≤ badL ng gv j q ∧ badL ng gv j q ≤ 1000000 := by
  unfold badL
  have := clampI_in (lo := 0) (hi := 1000000) (gv q) (by decide)
  split <;> omega
section
variable {P : Program} (hF : FnsOk P AF.fns.get) (hG : FnsOk P AF.hns.get)
include hF hG
theorem clockBad_ok (hb : ACall P 20 [] noG (fun r _ => r = .b true)) (n : Int) (na ng : Nat) (av gv : Nat → Int) {h : Heap} {K : V → Heap → Prop} (hK : ∀ h, K (.b true) h) :
    ACall P 7 [.i .i64 n, .sl none 1 (arrI na av), .sl none 1 (arrI ng gv)] h K := by
  have t1 := tm8 n
  have t2 := tm8 (n.tmod 8 + 8)
  have t0 : 0 ≤ (n.tmod 8 + 8).tmod 8 := Int.tmod_nonneg _ (by omega)
  have hlg := arrI_len ng gv
  have hla := arrI_len na av
  refine fn_sp (hG 7 AF.f7 rfl) rfl ?_
  (conv => whnf)
  refine ⟨hb.frame rfl fun v h' hv => ?_⟩
  subst hv
  refine ⟨rfl, ?_⟩
  ((conv => whnf); repeat (first | (refine SWrap.w64 (by omega) (by omega) ?_; conv => whnf) | (refine SIf.ff rfl ?_; conv => whnf) | (refine SIf.tt rfl ?_; conv => whnf) | (refine SOpt.of rfl ?_; conv => whnf) | (refine SChk.mk rfl ?_; conv => whnf) | (refine SEx.of rfl ?_; conv => whnf)))
  obtain ⟨m, hm, hm1, hm8⟩ : ∃ m : Nat, 1 + (n.tmod 8 + 8).tmod 8 = (m : Int) ∧ 1 ≤ m ∧ m ≤ 8 := ⟨(1 + (n.tmod 8 + 8).tmod 8).toNat, by omega, by omega, by omega⟩
  rw [hm]
  refine ⟨new_ok (h := h) hF (m : Int) fun h1 hkp hnx hc hk => ?_⟩
  rw [clampN_nat hm1 hm8] at hc hk
  have hck : h.next + 1 ≠ h.next := by omega
  have hcl : h.next + 1 < h1.next := by omega
  have hkl : h.next < h1.next := by omega
  clear hkp hnx t1 t2 t0 h'
  generalize h.next + 1 = c at *
  generalize h.next = k at *
  ((conv => whnf); repeat (first | (refine SChk.mk (by simp [roomOk]; omega) ?_; conv => whnf) | (refine SEx.of (x := arrI m fun _ => 0) (by rw [rep_arrI]; exact own_arrI _ _ _) ?_; conv => whnf) | (refine SIf.ff rfl ?_; conv => whnf) | (refine SIf.tt rfl ?_; conv => whnf) | (refine SOpt.of rfl ?_; conv => whnf) | (refine SChk.mk rfl ?_; conv => whnf) | (refine SEx.of rfl ?_; conv => whnf)))
  rw [arrI_len]
  obtain ⟨b, hbd⟩ : ∃ b, b = h1.next := ⟨_, rfl⟩
  have hbc : b ≠ c := by omega
  have hbk : b ≠ k := by omega
  refine SLoop.by (fun q fr st => ∃ (j : Nat) (h2 : Heap), j ≤ m ∧ q = m - j ∧ h2.next = h1.next + 1 ∧ h2.get b = some (.arr 1 (arrI m (badL ng gv j))) ∧
      h2.get c = some (.cs (clkC k m (fun _ => 0) fun _ => 0)) ∧ h2.get k = some (.arr 1 (arrI m fun _ => 0)) ∧
      Fr.le [(29, .i .i64 j), (28, .i .i64 m), (9, .ms (.g b) 1 0 m), (8, .p (.g c) 0), (2, .sl none 1 (arrI ng gv)), (1, .sl none 1 (arrI na av)), (0, .i .i64 (m : Nat))] fr ∧ st = gst h2)
    m ⟨0, h1.push (.arr 1 (arrI m fun _ => 0)), by omega, rfl, rfl, by rw [hbd, Heap.get_push_self, arrI_congr (f := fun _ => 0) (g := badL ng gv 0) fun j _ => by simp [badL]], Heap.gp (by omega) hc, Heap.gp (by omega) hk, by rw [hbd]; exact (by repeat (first | exact Fr.le_nil | refine Fr.le_cons rfl ?_)), rfl⟩ ?_
  rintro q fr st ⟨j, h2, hj, rfl, hn2, hb2, hc2, hk2, hle, rfl⟩
  refine ⟨_, hle, fun R hR => ?_⟩
  clear hle hc hk
  ((conv => whnf); repeat (first | (refine SIf.ff rfl ?_; conv => whnf) | (refine SIf.tt rfl ?_; conv => whnf) | (refine SOpt.of rfl ?_; conv => whnf) | (refine SChk.mk rfl ?_; conv => whnf) | (refine SEx.of rfl ?_; conv => whnf)))
  refine SIf.ds (fun hlt => ?_) (fun hge => ?_)
  · ((conv => whnf); repeat (first | (refine SIf.ff rfl ?_; conv => whnf) | (refine SIf.tt rfl ?_; conv => whnf) | (refine SOpt.of rfl ?_; conv => whnf) | (refine SChk.mk rfl ?_; conv => whnf) | (refine SEx.of rfl ?_; conv => whnf)))
    refine SIf.ds (fun hlt2 => ?_) (fun hge2 => ?_)
    · have hset : arrI m (fun q => if q = j then clampI 0 1000000 (gv j) else badL ng gv j q) = arrI m (badL ng gv (j + 1)) := arrI_congr fun q _ => by
        unfold badL
        by_cases hq : q = j
        · subst hq; rw [if_pos rfl, if_pos (by omega)]
        · rw [if_neg hq]
          by_cases hq2 : q < j ∧ q < ng
          · rw [if_pos hq2, if_pos (by omega)]
          · rw [if_neg hq2, if_neg (by omega)]
      ((conv => whnf); repeat (first | (refine SChk.ix (by omega) (by omega) ?_; conv => whnf) | (refine SOpt.of (mn2 (z := minI (gv j) 1000000) rfl) ?_; conv => whnf) | (refine SOpt.of (mx2 (z := clampI 0 1000000 (gv j)) rfl) ?_; conv => whnf) | (refine SWrap.w64 (by omega) (by omega) ?_; conv => whnf) | (refine SEx.of (congrArg some ((arrI_set (j := j) (by simp) _).trans hset)) ?_; conv => whnf) | (refine SIf.ff rfl ?_; conv => whnf) | (refine SIf.tt rfl ?_; conv => whnf) | (refine SOpt.of rfl ?_; conv => whnf) | (refine SChk.mk rfl ?_; conv => whnf) | (refine SEx.of (hb2) ?_; conv => whnf) | (refine SEx.of (arrI_get (j := j) (by simp) (by omega)) ?_; conv => whnf) | (refine SEx.of rfl ?_; conv => whnf)))
      exact hR (m - (j + 1)) _ _ (by omega) ⟨j + 1, h2.set b _, by omega, rfl, hn2, Heap.get_set_self hb2, Heap.gs hbc.symm hc2, Heap.gs hbk.symm hk2, (by repeat (first | exact Fr.le_nil | refine Fr.le_cons rfl ?_)), rfl⟩
    · ((conv => whnf); repeat (first | (refine SWrap.w64 (by omega) (by omega) ?_; conv => whnf) | (refine SIf.ff rfl ?_; conv => whnf) | (refine SIf.tt rfl ?_; conv => whnf) | (refine SOpt.of rfl ?_; conv => whnf) | (refine SChk.mk rfl ?_; conv => whnf) | (refine SEx.of rfl ?_; conv => whnf)))
      refine hR (m - (j + 1)) _ _ (by omega) ⟨j + 1, h2, by omega, rfl, hn2, ?_, hc2, hk2, (by repeat (first | exact Fr.le_nil | refine Fr.le_cons rfl ?_)), rfl⟩
      rw [hb2, arrI_congr fun q _ => ?_]
      unfold badL
      by_cases hq2 : q < j ∧ q < ng
      · rw [if_pos hq2, if_pos (by omega)]
      · rw [if_neg hq2, if_neg (by omega)]
  · obtain rfl : m = j := by omega
    clear hR
    (conv => whnf)
    have hbl := badL_in ng gv m
    refine ⟨tick_ms hF hc2 hk2 hck hm8 hb2 (Nat.le_refl _) hbk (fun i _ => by omega) (fun hn => absurd (fun i _ => ⟨(hbl i).1, (hbl i).2, by have := hbl i; show (0 : Int) + _ ≤ _; omega⟩) hn) fun _ h3 hkp3 hc3 hk3 => ?_⟩
    have hb3 := (hkp3.same b (by omega) (by omega)).trans hb2
    have hn3 := hkp3.next
    rw [arrI_congr (g := badL ng gv m) fun j hj => by unfold tickNow; rw [if_pos (by omega)]; show (0 : Int) + _ = _; omega] at hk3
    clear hc2 hk2 hb2
    generalize tickLo m _ _ = lo at *
    generalize tickHi m _ _ = hi at *
    obtain ⟨A, hA⟩ : ∃ A, A = min na 10 := ⟨_, rfl⟩
    have hlA := arrI_len A av
    ((conv => whnf); repeat (first | (refine SOpt.of (mn2 (z := (A : Int)) (by rw [arrI_len]; split <;> omega)) ?_; conv => whnf) | (refine SChk.d3 (by omega) (by omega) (by omega) ?_; conv => whnf) | (refine SEx.of (x := arrI A av) (by rw [← arrI_take A (by omega : A ≤ na)]; rfl) ?_; conv => whnf) | (refine SIf.ff rfl ?_; conv => whnf) | (refine SIf.tt rfl ?_; conv => whnf) | (refine SOpt.of rfl ?_; conv => whnf) | (refine SChk.mk rfl ?_; conv => whnf) | (refine SEx.of rfl ?_; conv => whnf)))
    refine SLoop.by (fun q fr st => ∃ (i : Nat) (bm : Bool), i ≤ m ∧ i ≤ A ∧ q = m - i ∧ (bm = true ↔ ∀ j, j < i → 0 ≤ av j ∧ av j ≤ 1000000) ∧
        Fr.le [(12, .i .i64 i), (11, .b bm), (9, .ms (.g b) 1 0 m), (8, .p (.g c) 0), (1, .sl none 1 (arrI A av)), (0, .i .i64 (m : Nat))] fr ∧ st = gst h3)
      m ⟨0, true, by omega, by omega, rfl, ⟨fun _ j hj => absurd hj (Nat.not_lt_zero _), fun _ => rfl⟩, (by repeat (first | exact Fr.le_nil | refine Fr.le_cons rfl ?_)), rfl⟩ ?_
    rintro q fr st ⟨i, bm, him, hiA, rfl, hbm, hle, rfl⟩
    refine ⟨_, hle, fun R hR => ?_⟩
    clear hle
    ((conv => whnf); repeat (first | (refine SIf.ff rfl ?_; conv => whnf) | (refine SIf.tt rfl ?_; conv => whnf) | (refine SOpt.of rfl ?_; conv => whnf) | (refine SChk.mk rfl ?_; conv => whnf) | (refine SEx.of rfl ?_; conv => whnf)))
    refine SIf.ds (fun hlt => ?_) (fun hge => ?_)
    focus
      ((conv => whnf); repeat (first | (refine SIf.ff rfl ?_; conv => whnf) | (refine SIf.tt rfl ?_; conv => whnf) | (refine SOpt.of rfl ?_; conv => whnf) | (refine SChk.mk rfl ?_; conv => whnf) | (refine SEx.of rfl ?_; conv => whnf)))
      refine SIf.ds (fun hlt2 => ?_) (fun hge2 => ?_)
      focus
        ((conv => whnf); repeat (first | (refine SIf.ff rfl ?_; conv => whnf) | (refine SIf.tt rfl ?_; conv => whnf) | (refine SOpt.of rfl ?_; conv => whnf) | (refine SChk.mk rfl ?_; conv => whnf) | (refine SEx.of rfl ?_; conv => whnf)))
        have hnext : ∀ bm' : Bool, (bm' = true ↔ bm = true ∧ 0 ≤ av i ∧ av i ≤ 1000000) → (bm' = true ↔ ∀ j, j < i + 1 → 0 ≤ av j ∧ av j ≤ 1000000) := by
          intro bm' h
          rw [h, hbm]
          constructor
          · rintro ⟨h1, h2⟩ j hj
            by_cases hji : j < i
            · exact h1 j hji
            · obtain rfl : j = i := by omega
              exact h2
          · exact fun h => ⟨fun j hj => h j (by omega), h i (by omega)⟩
        refine SIf.mk (fun hbt => ?_) (fun hbt => ?_)
        · ((conv => whnf); repeat (first | (refine SChk.ix (by omega) (by omega) ?_; conv => whnf) | (refine SIf.ff rfl ?_; conv => whnf) | (refine SIf.tt rfl ?_; conv => whnf) | (refine SOpt.of rfl ?_; conv => whnf) | (refine SChk.mk rfl ?_; conv => whnf) | (refine SEx.of (arrI_get (j := i) (by simp) (by omega)) ?_; conv => whnf) | (refine SEx.of rfl ?_; conv => whnf)))
          refine SIf.ds (fun h0 => ?_) (fun h0 => ?_)
          · ((conv => whnf); repeat (first | (refine SChk.ix (by omega) (by omega) ?_; conv => whnf) | (refine SIf.ff rfl ?_; conv => whnf) | (refine SIf.tt rfl ?_; conv => whnf) | (refine SOpt.of rfl ?_; conv => whnf) | (refine SChk.mk rfl ?_; conv => whnf) | (refine SEx.of (arrI_get (j := i) (by simp) (by omega)) ?_; conv => whnf) | (refine SEx.of rfl ?_; conv => whnf)))
            ((conv => whnf); repeat (first | (refine SWrap.w64 (by omega) (by omega) ?_; conv => whnf) | (refine SIf.ff rfl ?_; conv => whnf) | (refine SIf.tt rfl ?_; conv => whnf) | (refine SOpt.of rfl ?_; conv => whnf) | (refine SChk.mk rfl ?_; conv => whnf) | (refine SEx.of rfl ?_; conv => whnf)))
            exact hR (m - (i + 1)) _ _ (by omega) ⟨i + 1, decide (av i ≤ 1000000), by omega, by omega, rfl, hnext _ (by simp [hbt, h0]), (by repeat (first | exact Fr.le_nil | refine Fr.le_cons rfl ?_)), rfl⟩
          · ((conv => whnf); repeat (first | (refine SWrap.w64 (by omega) (by omega) ?_; conv => whnf) | (refine SIf.ff rfl ?_; conv => whnf) | (refine SIf.tt rfl ?_; conv => whnf) | (refine SOpt.of rfl ?_; conv => whnf) | (refine SChk.mk rfl ?_; conv => whnf) | (refine SEx.of rfl ?_; conv => whnf)))
            exact hR (m - (i + 1)) _ _ (by omega) ⟨i + 1, false, by omega, by omega, rfl, hnext _ (by simp [h0]), (by repeat (first | exact Fr.le_nil | refine Fr.le_cons rfl ?_)), rfl⟩
        · ((conv => whnf); repeat (first | (refine SWrap.w64 (by omega) (by omega) ?_; conv => whnf) | (refine SIf.ff rfl ?_; conv => whnf) | (refine SIf.tt rfl ?_; conv => whnf) | (refine SOpt.of rfl ?_; conv => whnf) | (refine SChk.mk rfl ?_; conv => whnf) | (refine SEx.of rfl ?_; conv => whnf)))
          exact hR (m - (i + 1)) _ _ (by omega) ⟨i + 1, false, by omega, by omega, rfl, hnext _ (by simp [hbt]), (by repeat (first | exact Fr.le_nil | refine Fr.le_cons rfl ?_)), rfl⟩
    all_goals
      have hmin : i = min m A := by omega
      clear hR
      ((conv => whnf); repeat (first | (refine SIf.ff rfl ?_; conv => whnf) | (refine SIf.tt rfl ?_; conv => whnf) | (refine SOpt.of rfl ?_; conv => whnf) | (refine SChk.mk rfl ?_; conv => whnf) | (refine SEx.of rfl ?_; conv => whnf)))
      refine ⟨tick_ok hF hc3 hk3 hck hm8 (fun i _ => by have := hbl i; omega) (fun hno => ?_) (fun hyes h5 hkp5 hc5 hk5 => ?_)⟩
      · have hbf : bm = false := by
          cases bm with
          | false => rfl
          | true =>
            refine absurd (fun q hq => ?_) hno
            have h1 := hbm.1 rfl q (by omega)
            have h2 := hbl q
            exact ⟨h1.1, h1.2, by omega⟩
        subst hbf
        ((conv => whnf); repeat (first | (refine SIf.ff rfl ?_; conv => whnf) | (refine SIf.tt rfl ?_; conv => whnf) | (refine SOpt.of rfl ?_; conv => whnf) | (refine SChk.mk rfl ?_; conv => whnf) | (refine SEx.of rfl ?_; conv => whnf)))
        refine SLoop.by (fun q fr st => ∃ j : Nat, j ≤ m ∧ q = m - j ∧ Fr.le [(88, .i .i64 j), (87, .i .i64 m), (9, .ms (.g b) 1 0 m), (8, .p (.g c) 0), (11, .b false), (1, .sl none 1 (arrI A av)), (0, .i .i64 (m : Nat))] fr ∧ st = gst h3)
          m ⟨0, by omega, rfl, (by repeat (first | exact Fr.le_nil | refine Fr.le_cons rfl ?_)), rfl⟩ ?_
        rintro q fr st ⟨j, hj, rfl, hle, rfl⟩
        refine ⟨_, hle, fun R2 hR2 => ?_⟩
        clear hle
        ((conv => whnf); repeat (first | (refine SIf.ff rfl ?_; conv => whnf) | (refine SIf.tt rfl ?_; conv => whnf) | (refine SOpt.of rfl ?_; conv => whnf) | (refine SChk.mk rfl ?_; conv => whnf) | (refine SEx.of rfl ?_; conv => whnf)))
        refine SIf.ds (fun hlt3 => ?_) (fun hge3 => ?_)
        · have hj' : j < m := by omega
          have hbj := hbl j
          ((conv => whnf); repeat (first | (refine SChk.ix (by omega) (by omega) ?_; conv => whnf) | (refine SIf.ff rfl ?_; conv => whnf) | (refine SIf.tt rfl ?_; conv => whnf) | (refine SOpt.of rfl ?_; conv => whnf) | (refine SChk.mk rfl ?_; conv => whnf) | (refine SEx.of (hb3) ?_; conv => whnf) | (refine SEx.of (arrI_get (j := j) (by simp) (by omega)) ?_; conv => whnf) | (refine SEx.of rfl ?_; conv => whnf)))
          refine ⟨now_ok hF hc3 hk3 _ fun x hx _ => ?_⟩
          obtain rfl := hx (by omega) (by omega)
          ((conv => whnf); repeat (first | (refine SIf.nf (by simp) ?_; conv => whnf) | (refine SWrap.w64 (by omega) (by omega) ?_; conv => whnf) | (refine SIf.ff rfl ?_; conv => whnf) | (refine SIf.tt rfl ?_; conv => whnf) | (refine SOpt.of rfl ?_; conv => whnf) | (refine SChk.mk rfl ?_; conv => whnf) | (refine SEx.of rfl ?_; conv => whnf)))
          exact hR2 (m - (j + 1)) _ _ (by omega) ⟨j + 1, by omega, rfl, (by repeat (first | exact Fr.le_nil | refine Fr.le_cons rfl ?_)), rfl⟩
        · ((conv => whnf); repeat (first | (refine SIf.ff rfl ?_; conv => whnf) | (refine SIf.tt rfl ?_; conv => whnf) | (refine SOpt.of rfl ?_; conv => whnf) | (refine SChk.mk rfl ?_; conv => whnf) | (refine SEx.of rfl ?_; conv => whnf)))
          refine ⟨now_ok hF hc3 hk3 _ fun x _ hx => ?_⟩
          obtain rfl := hx (by omega)
          ((conv => whnf); repeat (first | (refine SIf.ff rfl ?_; conv => whnf) | (refine SIf.tt rfl ?_; conv => whnf) | (refine SOpt.of rfl ?_; conv => whnf) | (refine SChk.mk rfl ?_; conv => whnf) | (refine SEx.of rfl ?_; conv => whnf)))
          refine ⟨now_ok hF hc3 hk3 _ fun x _ hx => ?_⟩
          obtain rfl := hx (by omega)
          ((conv => whnf); repeat (first | (refine SIf.ff rfl ?_; conv => whnf) | (refine SIf.tt rfl ?_; conv => whnf) | (refine SOpt.of rfl ?_; conv => whnf) | (refine SChk.mk rfl ?_; conv => whnf) | (refine SEx.of rfl ?_; conv => whnf)))
          exact hK _
      · have hbt : bm = true := hbm.2 fun q hq => by
          have := hyes q (by omega)
          exact ⟨this.1, this.2.1⟩
        have hall := hbm.1 hbt
        have hb5 := (hkp5.same b (by omega) (by omega)).trans hb3
        subst hbt
        ((conv => whnf); repeat (first | (refine SIf.ff rfl ?_; conv => whnf) | (refine SIf.tt rfl ?_; conv => whnf) | (refine SOpt.of rfl ?_; conv => whnf) | (refine SChk.mk rfl ?_; conv => whnf) | (refine SEx.of rfl ?_; conv => whnf)))
        refine SLoop.by (fun q fr st => ∃ j : Nat, j ≤ m ∧ q = m - j ∧ Fr.le [(88, .i .i64 j), (87, .i .i64 m), (9, .ms (.g b) 1 0 m), (8, .p (.g c) 0), (11, .b true), (1, .sl none 1 (arrI A av)), (0, .i .i64 (m : Nat))] fr ∧ st = gst h5)
          m ⟨0, by omega, rfl, (by repeat (first | exact Fr.le_nil | refine Fr.le_cons rfl ?_)), rfl⟩ ?_
        rintro q fr st ⟨j, hj, rfl, hle, rfl⟩
        refine ⟨_, hle, fun R2 hR2 => ?_⟩
        clear hle
        ((conv => whnf); repeat (first | (refine SIf.ff rfl ?_; conv => whnf) | (refine SIf.tt rfl ?_; conv => whnf) | (refine SOpt.of rfl ?_; conv => whnf) | (refine SChk.mk rfl ?_; conv => whnf) | (refine SEx.of rfl ?_; conv => whnf)))
        refine SIf.ds (fun hlt3 => ?_) (fun hge3 => ?_)
        · have hj' : j < m := by omega
          have hbj := hbl j
          ((conv => whnf); repeat (first | (refine SChk.ix (by omega) (by omega) ?_; conv => whnf) | (refine SIf.ff rfl ?_; conv => whnf) | (refine SIf.tt rfl ?_; conv => whnf) | (refine SOpt.of rfl ?_; conv => whnf) | (refine SChk.mk rfl ?_; conv => whnf) | (refine SEx.of (hb5) ?_; conv => whnf) | (refine SEx.of (arrI_get (j := j) (by simp) (by omega)) ?_; conv => whnf) | (refine SEx.of rfl ?_; conv => whnf)))
          refine SIf.ds (fun hja => ?_) (fun hja => ?_)
          · have haj := hall j (by omega)
            ((conv => whnf); repeat (first | (refine SChk.ix (by omega) (by omega) ?_; conv => whnf) | (refine SWrap.w64 (by omega) (by omega) ?_; conv => whnf) | (refine SIf.ff rfl ?_; conv => whnf) | (refine SIf.tt rfl ?_; conv => whnf) | (refine SOpt.of rfl ?_; conv => whnf) | (refine SChk.mk rfl ?_; conv => whnf) | (refine SEx.of (arrI_get (j := j) (by simp) (by omega)) ?_; conv => whnf) | (refine SEx.of rfl ?_; conv => whnf)))
            refine ⟨now_ok hF hc5 hk5 _ fun x hx _ => ?_⟩
            obtain rfl := hx (by omega) (by omega)
            have he : tickNow (min A m) (badL ng gv m) av (Int.toNat ↑j) = badL ng gv m j + av j := by
              show tickNow (min A m) (badL ng gv m) av j = _
              unfold tickNow
              rw [if_pos (by omega)]
            ((conv => whnf); repeat (first | (refine SIf.nf he ?_; conv => whnf) | (refine SWrap.w64 (by omega) (by omega) ?_; conv => whnf) | (refine SIf.ff rfl ?_; conv => whnf) | (refine SIf.tt rfl ?_; conv => whnf) | (refine SOpt.of rfl ?_; conv => whnf) | (refine SChk.mk rfl ?_; conv => whnf) | (refine SEx.of rfl ?_; conv => whnf)))
            exact hR2 (m - (j + 1)) _ _ (by omega) ⟨j + 1, by omega, rfl, (by repeat (first | exact Fr.le_nil | refine Fr.le_cons rfl ?_)), rfl⟩
          · ((conv => whnf); repeat (first | (refine SIf.ff rfl ?_; conv => whnf) | (refine SIf.tt rfl ?_; conv => whnf) | (refine SOpt.of rfl ?_; conv => whnf) | (refine SChk.mk rfl ?_; conv => whnf) | (refine SEx.of rfl ?_; conv => whnf)))
            refine ⟨now_ok hF hc5 hk5 _ fun x hx _ => ?_⟩
            obtain rfl := hx (by omega) (by omega)
            have he : tickNow (min A m) (badL ng gv m) av (Int.toNat ↑j) = badL ng gv m j := by
              show tickNow (min A m) (badL ng gv m) av j = _
              unfold tickNow
              rw [if_neg (by omega)]
            ((conv => whnf); repeat (first | (refine SIf.nf he ?_; conv => whnf) | (refine SWrap.w64 (by omega) (by omega) ?_; conv => whnf) | (refine SIf.ff rfl ?_; conv => whnf) | (refine SIf.tt rfl ?_; conv => whnf) | (refine SOpt.of rfl ?_; conv => whnf) | (refine SChk.mk rfl ?_; conv => whnf) | (refine SEx.of rfl ?_; conv => whnf)))
            exact hR2 (m - (j + 1)) _ _ (by omega) ⟨j + 1, by omega, rfl, (by repeat (first | exact Fr.le_nil | refine Fr.le_cons rfl ?_)), rfl⟩
        · ((conv => whnf); repeat (first | (refine SIf.ff rfl ?_; conv => whnf) | (refine SIf.tt rfl ?_; conv => whnf) | (refine SOpt.of rfl ?_; conv => whnf) | (refine SChk.mk rfl ?_; conv => whnf) | (refine SEx.of rfl ?_; conv => whnf)))
          refine ⟨now_ok hF hc5 hk5 _ fun x _ hx => ?_⟩
          obtain rfl := hx (by omega)
          ((conv => whnf); repeat (first | (refine SIf.ff rfl ?_; conv => whnf) | (refine SIf.tt rfl ?_; conv => whnf) | (refine SOpt.of rfl ?_; conv => whnf) | (refine SChk.mk rfl ?_; conv => whnf) | (refine SEx.of rfl ?_; conv => whnf)))
          refine ⟨now_ok hF hc5 hk5 _ fun x _ hx => ?_⟩
          obtain rfl := hx (by omega)
          ((conv => whnf); repeat (first | (refine SIf.ff rfl ?_; conv => whnf) | (refine SIf.tt rfl ?_; conv => whnf) | (refine SOpt.of rfl ?_; conv => whnf) | (refine SChk.mk rfl ?_; conv => whnf) | (refine SEx.of rfl ?_; conv => whnf)))
          exact hK _
end
end Go.Eng
