/-
ClockSpan, as the abstract run has it.
-/
import Derived.Test.YtaddlnjgamlleaaGreatLaw6
import Derived.Test.YtaddlnjgamlleaaGreatClk3
namespace Go.Eng
open Go
/-- A row of rows of integers. -/
def arrR (n : Nat) (ln : Nat → Nat) (f : Nat → Nat → Int) : List (List V) := (List.range n).map fun j => [V.sl none 1 (arrI (ln j) (f j))]
theorem arrR_len (n : Nat) (ln : Nat → Nat) (f : Nat → Nat → Int) : (arrR n ln f).length = n := by simp [arrR]
theorem arrR_get {n : Nat} {ln : Nat → Nat} {f : Nat → Nat → Int} {i j : Nat} (he : i = j) (h : j < n) : (arrR n ln f)[i]? = some [V.sl none 1 (arrI (ln j) (f j))] := by
  subst he
  simp [arrR, h]
/-- All moments of three clocks. -/
def arrT (T : Nat) (w : Nat → Nat → Int) : List (List V) := (List.range (T + 1)).map fun t => [V.i .i64 (w t 0), V.i .i64 (w t 1), V.i .i64 (w t 2)]
theorem arrT_len (T : Nat) (w : Nat → Nat → Int) : (arrT T w).length = T + 1 := by simp [arrT]
theorem arrT_get {T : Nat} {w : Nat → Nat → Int} {i t : Nat} (he : i = t) (h : t ≤ T) : (arrT T w)[i]? = some [V.i .i64 (w t 0), V.i .i64 (w t 1), V.i .i64 (w t 2)] := by
  subst he
  simp [arrT, show i < T + 1 by omega]
theorem arrT_more (T : Nat) (w : Nat → Nat → Int) (N : Nat → Int) : arrT T w ++ [[V.i .i64 (N 0), V.i .i64 (N 1), V.i .i64 (N 2)]] = arrT (T + 1) (addW w (T + 1) N) := by
  unfold arrT
  rw [List.range_succ (n := T + 1), List.map_append, List.map_cons, List.map_nil, addW_new]
  congr 1
  exact List.map_congr_left fun t ht => by rw [addW_old (by simpa using ht)]
theorem three_get {w : Nat → Nat → Int} {t o x : Nat} (he : o = x) (h : x < 3) : ldCells [V.i .i64 (w t 0), V.i .i64 (w t 1), V.i .i64 (w t 2)] o none = some (V.i .i64 (w t x)) := by
  subst he
  match o, h with
  | 0, _ => rfl
  | 1, _ => rfl
  | 2, _ => rfl
theorem push_spare {h : Heap} {k : Nat} (hk : h.get k = some .spare) : (h.push .spare).get k = some .spare := by
  by_cases e : k = h.next
  · rw [e]; exact Heap.get_push_self _ _
  · rw [Heap.get_push_ne e]; exact hk
section
variable {P : Program} (hF : FnsOk P AF.fns.get) (hG : FnsOk P AF.hns.get)
include hF hG
theorem clockSpan_ok (hb : ACall P 20 [] noG (fun r _ => r = .b true)) (na : Nat) (ln : Nat → Nat) (av : Nat → Nat → Int) {h : Heap} {K : V → Heap → Prop} (hK : ∀ h, K (.b true) h) :
    ACall P 8 [.sl none 1 (arrR na ln av)] h K := by
  have hla := arrR_len na ln av
  refine fn_sp (hG 8 AF.f8 rfl) rfl ?_
  (conv => whnf)
  refine ⟨hb.frame rfl fun v h' hv => ?_⟩
  subst hv
  refine ⟨rfl, ?_⟩
  ((conv => whnf); repeat (first | (refine SIf.ff rfl ?_; conv => whnf) | (refine SIf.tt rfl ?_; conv => whnf) | (refine SOpt.of rfl ?_; conv => whnf) | (refine SChk.mk rfl ?_; conv => whnf) | (refine SEx.of rfl ?_; conv => whnf)))
  refine ⟨new_ok (h := h) hF 3 fun h1 hkp hnx hc hk => ?_⟩
  rw [show clampN 3 = 3 from rfl] at hc hk
  have hck : h.next + 1 ≠ h.next := by omega
  have hcl : h.next + 1 < h1.next := by omega
  have hkl : h.next < h1.next := by omega
  clear hkp hnx h'
  generalize h.next + 1 = c at *
  generalize h.next = k at *
  ((conv => whnf); repeat (first | (refine SIf.ff rfl ?_; conv => whnf) | (refine SIf.tt rfl ?_; conv => whnf) | (refine SOpt.of rfl ?_; conv => whnf) | (refine SChk.mk rfl ?_; conv => whnf) | (refine SEx.of rfl ?_; conv => whnf)))
  refine SLoop.by (fun q fr st => ∃ (T s : Nat) (h : Heap) (l : Heap) (w : Nat → Nat → Int) (lo hi : Nat → Int), T ≤ 20 ∧ q = 20 - T ∧ c < h.next ∧ k < h.next ∧ Lows 3 T w lo hi ∧ (∀ t x, t ≤ T → x < 3 → 0 ≤ w t x ∧ w t x ≤ 1000000 * T) ∧
      h.get c = some (.cs (clkC k 3 lo hi)) ∧ h.get k = some (.arr 1 (arrI 3 (w T))) ∧ l.get s = some .spare ∧
      Fr.le [(6, .i .i64 T), (5, .sl (some (.l s)) 3 (arrT T w)), (4, .p (.g c) 0), (0, .sl none 1 (arrR na ln av))] fr ∧ st = ⟨h, l⟩)
    20 ⟨0, 0, h1, noL.push .spare, fun _ _ => 0, fun _ => 0, fun _ => 0, by omega, rfl, hcl, hkl, .start 3, fun _ _ _ _ => by simp, hc, hk, rfl, (by repeat (first | exact Fr.le_nil | refine Fr.le_cons rfl ?_)), rfl⟩ ?_
  clear hcl hkl hc hk
  rintro q fr st ⟨T, s, h, l, w, lo, hi, hT, rfl, hcl, hkl, hlw, hw, hc, hk, hs, hle, rfl⟩
  refine ⟨_, hle, fun R hR => ?_⟩
  clear hle h1
  ((conv => whnf); repeat (first | (refine SIf.ff rfl ?_; conv => whnf) | (refine SIf.tt rfl ?_; conv => whnf) | (refine SOpt.of rfl ?_; conv => whnf) | (refine SChk.mk rfl ?_; conv => whnf) | (refine SEx.of rfl ?_; conv => whnf)))
  refine SIf.ds (fun hlt => ?_) (fun hge => ?_)
  focus
    ((conv => whnf); repeat (first | (refine SIf.ff rfl ?_; conv => whnf) | (refine SIf.tt rfl ?_; conv => whnf) | (refine SOpt.of rfl ?_; conv => whnf) | (refine SChk.mk rfl ?_; conv => whnf) | (refine SEx.of rfl ?_; conv => whnf)))
    refine SIf.ds (fun hlt2 => ?_) (fun hge2 => ?_)
    focus
      obtain ⟨A, hA⟩ : ∃ A, A = min (ln T) 3 := ⟨_, rfl⟩
      have hlA := arrI_len A (av T)
      have hlT := arrI_len (ln T) (av T)
      ((conv => whnf); repeat (first | (refine SChk.ix (by omega) (by omega) ?_; conv => whnf) | (refine SOpt.of (mn2 (z := (A : Int)) (by split <;> omega)) ?_; conv => whnf) | (refine SChk.d3 (by omega) (by omega) (by omega) ?_; conv => whnf) | (refine SEx.of (x := arrI A (av T)) (by rw [← arrI_take A (by omega : A ≤ ln T)]; rfl) ?_; conv => whnf) | (refine SIf.ff rfl ?_; conv => whnf) | (refine SIf.tt rfl ?_; conv => whnf) | (refine SOpt.of rfl ?_; conv => whnf) | (refine SChk.mk rfl ?_; conv => whnf) | (refine SEx.of (arrR_get (j := T) (by simp) (by omega)) ?_; conv => whnf) | (refine SEx.of rfl ?_; conv => whnf)))
      refine SLoop.by (fun q fr st => ∃ j : Nat, j ≤ A ∧ q = A - j ∧ (∀ i, i < j → 0 ≤ av T i ∧ av T i ≤ 1000000) ∧
          Fr.le [(43, .i .i64 j), (42, .i .i64 A), (7, .sl none 1 (arrI A (av T))), (6, .i .i64 T), (5, .sl (some (.l s)) 3 (arrT T w)), (4, .p (.g c) 0), (0, .sl none 1 (arrR na ln av))] fr ∧ st = ⟨h, l⟩)
        A ⟨0, by omega, rfl, fun i hi => absurd hi (Nat.not_lt_zero _), by rw [hlA]; exact (by repeat (first | exact Fr.le_nil | refine Fr.le_cons rfl ?_)), rfl⟩ ?_
      rintro q fr st ⟨j, hj, rfl, hok, hle, rfl⟩
      refine ⟨_, hle, fun R2 hR2 => ?_⟩
      clear hle
      ((conv => whnf); repeat (first | (refine SIf.ff rfl ?_; conv => whnf) | (refine SIf.tt rfl ?_; conv => whnf) | (refine SOpt.of rfl ?_; conv => whnf) | (refine SChk.mk rfl ?_; conv => whnf) | (refine SEx.of rfl ?_; conv => whnf)))
      refine SIf.ds (fun hlt3 => ?_) (fun hge3 => ?_)
      focus
        ((conv => whnf); repeat (first | (refine SChk.ix (by omega) (by omega) ?_; conv => whnf) | (refine SIf.ff rfl ?_; conv => whnf) | (refine SIf.tt rfl ?_; conv => whnf) | (refine SOpt.of rfl ?_; conv => whnf) | (refine SChk.mk rfl ?_; conv => whnf) | (refine SEx.of (arrI_get (j := j) (by simp) (by omega)) ?_; conv => whnf) | (refine SEx.of rfl ?_; conv => whnf)))
        refine SIf.ds (fun h0 => ?_) (fun h0 => ?_)
        focus
          ((conv => whnf); repeat (first | (refine SIf.ff rfl ?_; conv => whnf) | (refine SIf.tt rfl ?_; conv => whnf) | (refine SOpt.of rfl ?_; conv => whnf) | (refine SChk.mk rfl ?_; conv => whnf) | (refine SEx.of rfl ?_; conv => whnf)))
          refine ⟨tick_nil hF hc hk hck (by omega) (fun x hx => by have := hw T x (Nat.le_refl _) hx; omega) fun h3 hkp3 hc3 hk3 => ?_⟩
          have hN : ∀ x, x < 3 → 0 ≤ w T x ∧ w T x ≤ 1000000 * (T + 1) := fun x hx => by have := hw T x (Nat.le_refl _) hx; omega
          generalize hNN : w T = N at hc3 hk3 hN
        rotate_left
        ((conv => whnf); repeat (first | (refine SChk.ix (by omega) (by omega) ?_; conv => whnf) | (refine SIf.ff rfl ?_; conv => whnf) | (refine SIf.tt rfl ?_; conv => whnf) | (refine SOpt.of rfl ?_; conv => whnf) | (refine SChk.mk rfl ?_; conv => whnf) | (refine SEx.of (arrI_get (j := j) (by simp) (by omega)) ?_; conv => whnf) | (refine SEx.of rfl ?_; conv => whnf)))
        refine SIf.ds (fun h1 => ?_) (fun h1 => ?_)
        focus
          ((conv => whnf); repeat (first | (refine SIf.ff rfl ?_; conv => whnf) | (refine SIf.tt rfl ?_; conv => whnf) | (refine SOpt.of rfl ?_; conv => whnf) | (refine SChk.mk rfl ?_; conv => whnf) | (refine SEx.of rfl ?_; conv => whnf)))
          refine ⟨tick_nil hF hc hk hck (by omega) (fun x hx => by have := hw T x (Nat.le_refl _) hx; omega) fun h3 hkp3 hc3 hk3 => ?_⟩
          have hN : ∀ x, x < 3 → 0 ≤ w T x ∧ w T x ≤ 1000000 * (T + 1) := fun x hx => by have := hw T x (Nat.le_refl _) hx; omega
          generalize hNN : w T = N at hc3 hk3 hN
        rotate_left
        focus
          ((conv => whnf); repeat (first | (refine SWrap.w64 (by omega) (by omega) ?_; conv => whnf) | (refine SIf.ff rfl ?_; conv => whnf) | (refine SIf.tt rfl ?_; conv => whnf) | (refine SOpt.of rfl ?_; conv => whnf) | (refine SChk.mk rfl ?_; conv => whnf) | (refine SEx.of rfl ?_; conv => whnf)))
          refine hR2 (A - (j + 1)) _ _ (by omega) ⟨j + 1, by omega, rfl, fun i hi => ?_, (by repeat (first | exact Fr.le_nil | refine Fr.le_cons rfl ?_)), rfl⟩
          by_cases hij : i < j
          · exact hok i hij
          · obtain rfl : i = j := by omega
            omega
      rotate_left 2
      focus
        ((conv => whnf); repeat (first | (refine SIf.ff rfl ?_; conv => whnf) | (refine SIf.tt rfl ?_; conv => whnf) | (refine SOpt.of rfl ?_; conv => whnf) | (refine SChk.mk rfl ?_; conv => whnf) | (refine SEx.of rfl ?_; conv => whnf)))
        have hN : ∀ x, x < 3 → 0 ≤ tickNow (min A 3) (w T) (av T) x ∧ tickNow (min A 3) (w T) (av T) x ≤ 1000000 * (T + 1) := fun x hx => by
          have := hw T x (Nat.le_refl _) hx
          unfold tickNow
          split
          · have := hok x (by omega)
            omega
          · omega
        refine ⟨tick_ok hF hc hk hck (by omega) (fun x hx => by have := hw T x (Nat.le_refl _) hx; omega) (fun hno => absurd (fun i hi => ?_) hno) fun _ h3 hkp3 hc3 hk3 => ?_⟩
        · have h1 := hok i (by omega)
          have h2 := hw T i (Nat.le_refl _) (by omega)
          exact ⟨h1.1, h1.2, by omega⟩
        generalize hNN : tickNow (min A 3) (w T) (av T) = N at hc3 hk3 hN
      all_goals
        have hn3 := hkp3.next
        clear hR2 hok hj hNN
        ((conv => whnf); repeat (first | (refine SIf.ff rfl ?_; conv => whnf) | (refine SIf.tt rfl ?_; conv => whnf) | (refine SOpt.of rfl ?_; conv => whnf) | (refine SChk.mk rfl ?_; conv => whnf) | (refine SEx.of rfl ?_; conv => whnf)))
        refine ⟨now_ok hF hc3 hk3 _ fun x hx _ => ?_⟩
        obtain rfl := hx (by omega) (by omega)
        clear hx
        ((conv => whnf); repeat (first | (refine SIf.ff rfl ?_; conv => whnf) | (refine SIf.tt rfl ?_; conv => whnf) | (refine SOpt.of rfl ?_; conv => whnf) | (refine SChk.mk rfl ?_; conv => whnf) | (refine SEx.of rfl ?_; conv => whnf)))
        refine ⟨now_ok hF hc3 hk3 _ fun x hx _ => ?_⟩
        obtain rfl := hx (by omega) (by omega)
        clear hx
        ((conv => whnf); repeat (first | (refine SIf.ff rfl ?_; conv => whnf) | (refine SIf.tt rfl ?_; conv => whnf) | (refine SOpt.of rfl ?_; conv => whnf) | (refine SChk.mk rfl ?_; conv => whnf) | (refine SEx.of rfl ?_; conv => whnf)))
        refine ⟨now_ok hF hc3 hk3 _ fun x hx _ => ?_⟩
        obtain rfl := hx (by omega) (by omega)
        clear hx
        ((conv => whnf); repeat (first | (refine SChk.mk (by simp [roomOk, arrT_len]; omega) ?_; conv => whnf) | (refine SWrap.w64 (by omega) (by omega) ?_; conv => whnf) | (refine SIf.ff rfl ?_; conv => whnf) | (refine SIf.tt rfl ?_; conv => whnf) | (refine SOpt.of rfl ?_; conv => whnf) | (refine SChk.mk rfl ?_; conv => whnf) | (refine SEx.of (push_spare hs) ?_; conv => whnf) | (refine SEx.of rfl ?_; conv => whnf)))
        refine hR (20 - (T + 1)) _ _ (by omega) ⟨T + 1, _, h3, _, addW w (T + 1) N, _, _, by omega, rfl, by omega, by omega, hlw.tick (by omega), fun t x ht hx => ?_, hc3, by rw [addW_new]; exact hk3, Heap.get_push_self _ _, Fr.le_cons rfl (Fr.le_cons (by rw [← arrT_more]; rfl) (by repeat (first | exact Fr.le_nil | refine Fr.le_cons rfl ?_))), rfl⟩
        by_cases htt : t = T + 1
        · subst htt
          rw [addW_new]
          exact hN x hx
        · rw [addW_old (by omega)]
          have := hw t x (by omega) hx
          omega
  all_goals
    have hw' : ∀ t x, t ≤ T → x < 3 → 0 ≤ w t x ∧ w t x ≤ 20000000 := fun t x ht hx => by
      have := hw t x ht hx
      omega
    clear hR
    have hlT := arrT_len T w
    ((conv => whnf); repeat (first | (refine SIf.ff rfl ?_; conv => whnf) | (refine SIf.tt rfl ?_; conv => whnf) | (refine SOpt.of rfl ?_; conv => whnf) | (refine SChk.mk rfl ?_; conv => whnf) | (refine SEx.of rfl ?_; conv => whnf)))
    refine SLoop.by (fun q fr st => ∃ (i : Nat) (d : Int), i ≤ T + 1 ∧ q = T + 1 - i ∧ Sofar 3 T w (spanS 3 i 0 0 0) d ∧
        Fr.le [(75, .i .i64 i), (74, .i .i64 (T + 1 : Nat)), (9, .i .i64 d), (5, .sl (some (.l s)) 3 (arrT T w)), (4, .p (.g c) 0)] fr ∧ st = ⟨h, l⟩)
      (T + 1) ⟨0, 0, by omega, rfl, ⟨Int.le_refl _, fun i k x y hs => by unfold spanS at hs; omega, .inl rfl⟩, by rw [hlT]; exact (by repeat (first | exact Fr.le_nil | refine Fr.le_cons rfl ?_)), rfl⟩ ?_
    rintro q fr st ⟨i, d, hi, rfl, hd, hle, rfl⟩
    refine ⟨_, hle, fun R hR => ?_⟩
    clear hle
    ((conv => whnf); repeat (first | (refine SIf.ff rfl ?_; conv => whnf) | (refine SIf.tt rfl ?_; conv => whnf) | (refine SOpt.of rfl ?_; conv => whnf) | (refine SChk.mk rfl ?_; conv => whnf) | (refine SEx.of rfl ?_; conv => whnf)))
    refine SIf.ds (fun hilt => ?_) (fun hige => ?_)
    focus
      ((conv => whnf); repeat (first | (refine SIf.ff rfl ?_; conv => whnf) | (refine SIf.tt rfl ?_; conv => whnf) | (refine SOpt.of rfl ?_; conv => whnf) | (refine SChk.mk rfl ?_; conv => whnf) | (refine SEx.of rfl ?_; conv => whnf)))
      refine SLoop.by (fun q fr st => ∃ (k' : Nat) (d : Int), k' ≤ i ∧ q = i - k' ∧ Sofar 3 T w (spanS 3 i k' 0 0) d ∧
          Fr.le [(11, .i .i64 k'), (10, .i .i64 i), (75, .i .i64 i), (74, .i .i64 (T + 1 : Nat)), (9, .i .i64 d), (5, .sl (some (.l s)) 3 (arrT T w)), (4, .p (.g c) 0)] fr ∧ st = ⟨h, l⟩)
        i ⟨0, d, by omega, rfl, hd, (by repeat (first | exact Fr.le_nil | refine Fr.le_cons rfl ?_)), rfl⟩ ?_
      clear hd
      rintro q fr st ⟨k', d, hk', rfl, hd, hle, rfl⟩
      refine ⟨_, hle, fun R2 hR2 => ?_⟩
      clear hle
      ((conv => whnf); repeat (first | (refine SIf.ff rfl ?_; conv => whnf) | (refine SIf.tt rfl ?_; conv => whnf) | (refine SOpt.of rfl ?_; conv => whnf) | (refine SChk.mk rfl ?_; conv => whnf) | (refine SEx.of rfl ?_; conv => whnf)))
      refine SIf.ds (fun hklt => ?_) (fun hkge => ?_)
      focus
        ((conv => whnf); repeat (first | (refine SIf.ff rfl ?_; conv => whnf) | (refine SIf.tt rfl ?_; conv => whnf) | (refine SOpt.of rfl ?_; conv => whnf) | (refine SChk.mk rfl ?_; conv => whnf) | (refine SEx.of rfl ?_; conv => whnf)))
        refine SLoop.by (fun q fr st => ∃ (x : Nat) (d : Int), x ≤ 3 ∧ q = 3 - x ∧ Sofar 3 T w (spanS 3 i k' x 0) d ∧
            Fr.le [(12, .i .i64 x), (11, .i .i64 k'), (10, .i .i64 i), (75, .i .i64 i), (74, .i .i64 (T + 1 : Nat)), (9, .i .i64 d), (5, .sl (some (.l s)) 3 (arrT T w)), (4, .p (.g c) 0)] fr ∧ st = ⟨h, l⟩)
          3 ⟨0, d, by omega, rfl, hd, (by repeat (first | exact Fr.le_nil | refine Fr.le_cons rfl ?_)), rfl⟩ ?_
        clear hd
        rintro q fr st ⟨x, d, hx, rfl, hd, hle, rfl⟩
        refine ⟨_, hle, fun R3 hR3 => ?_⟩
        clear hle
        ((conv => whnf); repeat (first | (refine SIf.ff rfl ?_; conv => whnf) | (refine SIf.tt rfl ?_; conv => whnf) | (refine SOpt.of rfl ?_; conv => whnf) | (refine SChk.mk rfl ?_; conv => whnf) | (refine SEx.of rfl ?_; conv => whnf)))
        refine SIf.ds (fun hxlt => ?_) (fun hxge => ?_)
        focus
          ((conv => whnf); repeat (first | (refine SIf.ff rfl ?_; conv => whnf) | (refine SIf.tt rfl ?_; conv => whnf) | (refine SOpt.of rfl ?_; conv => whnf) | (refine SChk.mk rfl ?_; conv => whnf) | (refine SEx.of rfl ?_; conv => whnf)))
          refine SLoop.by (fun q fr st => ∃ (y : Nat) (d : Int), y ≤ 3 ∧ q = 3 - y ∧ Sofar 3 T w (spanS 3 i k' x y) d ∧
              Fr.le [(13, .i .i64 y), (12, .i .i64 x), (11, .i .i64 k'), (10, .i .i64 i), (75, .i .i64 i), (74, .i .i64 (T + 1 : Nat)), (9, .i .i64 d), (5, .sl (some (.l s)) 3 (arrT T w)), (4, .p (.g c) 0)] fr ∧ st = ⟨h, l⟩)
            3 ⟨0, d, by omega, rfl, hd, (by repeat (first | exact Fr.le_nil | refine Fr.le_cons rfl ?_)), rfl⟩ ?_
          clear hd
          rintro q fr st ⟨y, d, hy, rfl, hd, hle, rfl⟩
          refine ⟨_, hle, fun R4 hR4 => ?_⟩
          clear hle
          ((conv => whnf); repeat (first | (refine SIf.ff rfl ?_; conv => whnf) | (refine SIf.tt rfl ?_; conv => whnf) | (refine SOpt.of rfl ?_; conv => whnf) | (refine SChk.mk rfl ?_; conv => whnf) | (refine SEx.of rfl ?_; conv => whnf)))
          refine SIf.ds (fun hylt => ?_) (fun hyge => ?_)
          · have w1 := hw' i x (by omega) (by omega)
            have w2 := hw' k' x (by omega) (by omega)
            have w3 := hw' i y (by omega) (by omega)
            have w4 := hw' k' y (by omega) (by omega)
            ((conv => whnf); repeat (first | (refine SChk.ix (by omega) (by omega) ?_; conv => whnf) | (refine SOpt.of (three_get (x := x) (by omega) (by omega)) ?_; conv => whnf) | (refine SOpt.of (three_get (x := y) (by omega) (by omega)) ?_; conv => whnf) | (refine SWrap.w64 (by omega) (by omega) ?_; conv => whnf) | (refine SOpt.of (mx2 (z := maxI d (spanV w i k' x y)) rfl) ?_; conv => whnf) | (refine SIf.ff rfl ?_; conv => whnf) | (refine SIf.tt rfl ?_; conv => whnf) | (refine SOpt.of rfl ?_; conv => whnf) | (refine SChk.mk rfl ?_; conv => whnf) | (refine SEx.of (arrT_get (t := i) (by omega) (by omega)) ?_; conv => whnf) | (refine SEx.of (arrT_get (t := k') (by omega) (by omega)) ?_; conv => whnf) | (refine SEx.of rfl ?_; conv => whnf)))
            exact hR4 (3 - (y + 1)) _ _ (by omega) ⟨y + 1, _, by omega, rfl, hd.more (by omega) (by omega) (by omega) (by omega), (by repeat (first | exact Fr.le_nil | refine Fr.le_cons rfl ?_)), rfl⟩
          · ((conv => whnf); repeat (first | (refine SWrap.w64 (by omega) (by omega) ?_; conv => whnf) | (refine SIf.ff rfl ?_; conv => whnf) | (refine SIf.tt rfl ?_; conv => whnf) | (refine SOpt.of rfl ?_; conv => whnf) | (refine SChk.mk rfl ?_; conv => whnf) | (refine SEx.of rfl ?_; conv => whnf)))
            exact hR3 (3 - (x + 1)) _ _ (by omega) ⟨x + 1, d, by omega, rfl, hd.mono fun i' k' x' y' hs => by unfold spanS at hs ⊢; omega, (by repeat (first | exact Fr.le_nil | refine Fr.le_cons rfl ?_)), rfl⟩
        · ((conv => whnf); repeat (first | (refine SWrap.w64 (by omega) (by omega) ?_; conv => whnf) | (refine SIf.ff rfl ?_; conv => whnf) | (refine SIf.tt rfl ?_; conv => whnf) | (refine SOpt.of rfl ?_; conv => whnf) | (refine SChk.mk rfl ?_; conv => whnf) | (refine SEx.of rfl ?_; conv => whnf)))
          exact hR2 (i - (k' + 1)) _ _ (by omega) ⟨k' + 1, d, by omega, rfl, hd.mono fun i' k' x' y' hs => by unfold spanS at hs ⊢; omega, (by repeat (first | exact Fr.le_nil | refine Fr.le_cons rfl ?_)), rfl⟩
      · ((conv => whnf); repeat (first | (refine SWrap.w64 (by omega) (by omega) ?_; conv => whnf) | (refine SIf.ff rfl ?_; conv => whnf) | (refine SIf.tt rfl ?_; conv => whnf) | (refine SOpt.of rfl ?_; conv => whnf) | (refine SChk.mk rfl ?_; conv => whnf) | (refine SEx.of rfl ?_; conv => whnf)))
        exact hR (T + 1 - (i + 1)) _ _ (by omega) ⟨i + 1, d, by omega, rfl, hd.mono fun i' k' x' y' hs => by unfold spanS at hs ⊢; omega, (by repeat (first | exact Fr.le_nil | refine Fr.le_cons rfl ?_)), rfl⟩
    · obtain rfl : i = T + 1 := by omega
      ((conv => whnf); repeat (first | (refine SIf.ff rfl ?_; conv => whnf) | (refine SIf.tt rfl ?_; conv => whnf) | (refine SOpt.of rfl ?_; conv => whnf) | (refine SChk.mk rfl ?_; conv => whnf) | (refine SEx.of rfl ?_; conv => whnf)))
      refine ⟨drift_ok hF hc (by omega) (fun i j hi hj => hlw.in (fun t x ht hx => by have := hw' t x ht hx; omega) hi hj) fun e e0 e1 e2 => ?_⟩
      ((conv => whnf); repeat (first | (refine SIf.ff rfl ?_; conv => whnf) | (refine SIf.tt rfl ?_; conv => whnf) | (refine SOpt.of rfl ?_; conv => whnf) | (refine SChk.mk rfl ?_; conv => whnf) | (refine SEx.of rfl ?_; conv => whnf)))
      rw [drift_eq hlw hd e0 e1 e2, decide_eq_true rfl]
      exact hK _
end
end Go.Eng
