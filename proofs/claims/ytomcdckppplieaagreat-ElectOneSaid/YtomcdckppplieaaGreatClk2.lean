/-
Clocks: a tick without times; new ones; what they tell.
-/
import Derived.Test.YtomcdckppplieaaGreatClk1
set_option linter.unusedVariables false
set_option linter.unusedSimpArgs false
namespace Go.Eng
open Go
section
variable {P : Program} (hF : FnsOk P AF.fns.get)
include hF
theorem tick_nil {h : Heap} {c k m : Nat} {lo hi0 now : Nat → Int} (hc : h.get c = some (.cs (clkC k m lo hi0))) (hk : h.get k = some (.arr 1 (arrI m now))) (hck : c ≠ k) (hm : m ≤ 8)
    (hb : ∀ i, i < m → 0 ≤ now i ∧ now i ≤ 1125899906842624) {K : V → Heap → Prop}
    (ht : ∀ h', Heap.Keeps (fun j => j = c ∨ j = k) h h' → h'.get c = some (.cs (clkC k m (tickLo m now lo) (tickHi m now hi0))) →
      h'.get k = some (.arr 1 (arrI m now)) → K (.b true) h') :
    ACall P 18 [.p (.g c) 0, .nils] h K := by
  refine fn_sp (hF 18 AF.f18 rfl) rfl ?_
  ((conv => whnf); repeat ((first | refine SOpt.of (mn2 (z := (0 : Int)) (by split <;> omega)) ?_ | refine SIf.ff rfl ?_ | refine SIf.tt rfl ?_ | refine SOpt.of rfl ?_ | refine SChk.mk rfl ?_ | refine SSame.mk rfl ?_ | refine SEx.of (hc) ?_ | refine SEx.of rfl ?_) <;> (conv => whnf)))
  refine SLoop.unroll fun R hR => ?_
  ((conv => whnf); repeat ((first | refine SIf.ff rfl ?_ | refine SIf.tt rfl ?_ | refine SOpt.of rfl ?_ | refine SChk.mk rfl ?_ | refine SSame.mk rfl ?_ | refine SEx.of rfl ?_) <;> (conv => whnf)))
  refine SLoop.unroll fun R hR => ?_
  clear hR
  ((conv => whnf); repeat ((first | refine SIf.ff rfl ?_ | refine SIf.tt rfl ?_ | refine SOpt.of rfl ?_ | refine SChk.mk rfl ?_ | refine SSame.mk rfl ?_ | refine SEx.of (hc) ?_ | refine SEx.of rfl ?_) <;> (conv => whnf)))
  refine SLoop.by (fun q fr st => ∃ i h', i ≤ m ∧ q = m - i ∧ Heap.Keeps (fun j => j = c ∨ j = k) h h' ∧ h'.get c = some (.cs (clkC k m (someLo m now lo i 0) (someHi m now hi0 i 0))) ∧ h'.get k = some (.arr 1 (arrI m now)) ∧
      Fr.le [(74, .i .i64 (i : Nat)), (73, .i .i64 m), (72, .ms (.g k) 1 0 m), (0, .p (.g c) 0)] fr ∧ st = gst h')
    m ⟨0, h, Nat.zero_le _, rfl, .refl _ _, by rw [hc]; congr 2; exact clkC_congr (fun j hj => by simp [someLo]) (fun j hj => by simp [someHi]), hk, Fr.le_cons rfl (Fr.le_cons rfl (Fr.le_cons rfl (Fr.le_cons rfl Fr.le_nil))), rfl⟩ ?_
  rintro q fr st ⟨i, h', hi, rfl, hkp, hc', hk', hle, rfl⟩
  refine ⟨_, hle, fun R hR => ?_⟩
  ((conv => whnf); repeat ((first | refine SIf.ff rfl ?_ | refine SIf.tt rfl ?_ | refine SOpt.of rfl ?_ | refine SChk.mk rfl ?_ | refine SSame.mk rfl ?_ | refine SEx.of rfl ?_) <;> (conv => whnf)))
  refine SIf.ds (fun hlt => ?_) (fun hge => ?_)
  · have hi' : i < m := by omega
    have hNi := hb i hi'
    ((conv => whnf); repeat ((first | refine SChk.ix (by omega) (by omega) ?_ | refine SIf.ff rfl ?_ | refine SIf.tt rfl ?_ | refine SOpt.of rfl ?_ | refine SChk.mk rfl ?_ | refine SSame.mk rfl ?_ | refine SEx.of (hc') ?_ | refine SEx.of (hk') ?_ | refine SEx.of (arrI_get (j := i) (by simp) (by omega)) ?_ | refine SEx.of rfl ?_) <;> (conv => whnf)))
    refine SLoop.by (fun q fr st => ∃ j h', j ≤ m ∧ q = m - j ∧ Heap.Keeps (fun j => j = c ∨ j = k) h h' ∧ h'.get c = some (.cs (clkC k m (someLo m now lo i j) (someHi m now hi0 i j))) ∧ h'.get k = some (.arr 1 (arrI m now)) ∧
        Fr.le [(84, .i .i64 (j : Nat)), (83, .i .i64 m), (82, .ms (.g k) 1 0 m), (10, .i .i64 (now i)), (9, .i .i64 i), (74, .i .i64 (i : Nat)), (73, .i .i64 m), (72, .ms (.g k) 1 0 m), (0, .p (.g c) 0)] fr ∧ st = gst h')
      m ⟨0, h', Nat.zero_le _, rfl, hkp, hc', hk', Fr.le_cons rfl (Fr.le_cons rfl (Fr.le_cons rfl (Fr.le_cons rfl (Fr.le_cons rfl (Fr.le_cons rfl (Fr.le_cons rfl (Fr.le_cons rfl (Fr.le_cons rfl Fr.le_nil)))))))), rfl⟩ ?_
    clear hkp hc' hk' hle
    rintro q fr st ⟨j, h', hj, rfl, hkp, hc', hk', hle, rfl⟩
    refine ⟨_, hle, fun R2 hR2 => ?_⟩
    ((conv => whnf); repeat ((first | refine SIf.ff rfl ?_ | refine SIf.tt rfl ?_ | refine SOpt.of rfl ?_ | refine SChk.mk rfl ?_ | refine SSame.mk rfl ?_ | refine SEx.of rfl ?_) <;> (conv => whnf)))
    refine SIf.ds (fun hlt => ?_) (fun hge => ?_)
    · have hj' : j < m := by omega
      have hNj := hb j hj'
      ((conv => whnf); repeat ((first | refine SChk.ix (by omega) (by omega) ?_ | refine SOpt.of (clkC_lo (j := i * 8 + j) (by simp; omega) (by omega)) ?_ | refine SOpt.of (clkC_hi (j := i * 8 + j) (by simp; omega) (by omega)) ?_ | refine SWrap.w64 (by omega) (by omega) ?_ | refine SChk.mk (clkC_fits (by simp; omega)) ?_ | refine SEx.of (congrArg some ((clkC_setlo (j := i * 8 + j) (by simp; omega) (by omega) _).trans (clkC_congr (lo' := someLo m now lo i (j + 1)) (fun q _ => someLo_step hi' hj' hm q) (fun q _ => rfl)))) ?_ | refine SEx.of (congrArg some ((clkC_sethi (j := i * 8 + j) (by simp; omega) (by omega) _).trans (clkC_congr (hi' := someHi m now hi0 i (j + 1)) (fun q _ => rfl) (fun q _ => someHi_step hi' hj' hm q)))) ?_ | refine SIf.ff rfl ?_ | refine SIf.tt rfl ?_ | refine SOpt.of rfl ?_ | refine SChk.mk rfl ?_ | refine SSame.mk rfl ?_ | refine SEx.of (hc') ?_ | refine SEx.of (hk') ?_ | refine SEx.of (Heap.get_set_self hc') ?_ | refine SEx.of (arrI_get (j := j) (by simp) (by omega)) ?_ | refine SEx.of rfl ?_) <;> (conv => whnf)))
      refine hR2 (m - (j + 1)) _ _ (by omega) ⟨j + 1, (h'.set c _).set c _, by omega, rfl, (hkp.set (.inl (.inl rfl)) _).set (.inl (.inl rfl)) _, Heap.get_set_self (Heap.get_set_self hc'), Heap.gs hck.symm (Heap.gs hck.symm hk'), Fr.le_cons rfl (Fr.le_cons rfl (Fr.le_cons rfl (Fr.le_cons rfl (Fr.le_cons rfl (Fr.le_cons rfl (Fr.le_cons rfl (Fr.le_cons rfl (Fr.le_cons rfl Fr.le_nil)))))))), rfl⟩
    · obtain rfl : j = m := by omega
      ((conv => whnf); repeat ((first | refine SWrap.w64 (by omega) (by omega) ?_ | refine SIf.ff rfl ?_ | refine SIf.tt rfl ?_ | refine SOpt.of rfl ?_ | refine SChk.mk rfl ?_ | refine SSame.mk rfl ?_ | refine SEx.of rfl ?_) <;> (conv => whnf)))
      refine hR (j - (i + 1)) _ _ (by omega) ⟨i + 1, h', by omega, rfl, hkp, ?_, hk', Fr.le_cons rfl (Fr.le_cons rfl (Fr.le_cons rfl (Fr.le_cons rfl Fr.le_nil))), rfl⟩
      rw [hc', clkC_congr (fun q _ => someLo_row q) (fun q _ => someHi_row q)]
  · obtain rfl : i = m := by omega
    ((conv => whnf); repeat ((first | refine SIf.ff rfl ?_ | refine SIf.tt rfl ?_ | refine SOpt.of rfl ?_ | refine SChk.mk rfl ?_ | refine SSame.mk rfl ?_ | refine SEx.of rfl ?_) <;> (conv => whnf)))
    refine ht h' hkp ?_ hk'
    rw [hc', clkC_congr (fun q _ => someLo_end q) (fun q _ => someHi_end q)]
omit hF in
theorem ownElems_id {g : Bool} : ∀ {l : List (List V)}, (∀ e ∈ l, ownG g e = some e) → ownElems g l = some l
  | [], _ => rfl
  | e :: r, h => by
    simp only [ownElems]
    rw [h e (by simp), ownElems_id fun e he => h e (by simp [he])]
omit hF in
theorem own_arrI (g : Bool) (n : Nat) (f : Nat → Int) : ownElems g (arrI n f) = some (arrI n f) := by
  refine ownElems_id fun e he => ?_
  simp only [arrI, List.mem_map] at he
  obtain ⟨j, _, rfl⟩ := he
  cases g <;> rfl
omit hF in
theorem rep_arrI (n : Nat) (x : Int) : List.replicate n [V.i .i64 x] = arrI n fun _ => x := by
  apply List.ext_getElem?
  intro i
  by_cases h : i < n <;> simp [arrI, h]

def clampN (n : Int) : Nat := (if 8 < (if n < 1 then 1 else n) then 8 else (if n < 1 then 1 else n)).toNat
omit hF in
theorem clampN_in (n : Int) : 1 ≤ clampN n ∧ clampN n ≤ 8 ∧ ((clampN n : Nat) : Int) = (if 8 < (if n < 1 then 1 else n) then 8 else (if n < 1 then 1 else n)) := by
  unfold clampN
  split <;> split <;> omega

set_option maxRecDepth 10000 in
theorem new_ok {h : Heap} (n : Int) {K : V → Heap → Prop} (hK : ∀ h', Heap.Keeps (fun _ => False) h h' → h'.next = h.next + 2 → h'.get (h.next + 1) = some (.cs (clkC h.next (clampN n) (fun _ => 0) fun _ => 0)) →
      h'.get h.next = some (.arr 1 (arrI (clampN n) fun _ => 0)) → K (.p (.g (h.next + 1)) 0) h') : ACall P 9 [.i .i64 n] h K := by
  obtain ⟨h1, h2, h3⟩ := clampN_in n
  refine fn_sp (hF 9 AF.f9 rfl) rfl ?_
  ((conv => whnf); repeat ((first | refine SOpt.of (mx2 (z := if n < 1 then 1 else n) rfl) ?_ | refine SOpt.of (mn2 (z := ((clampN n : Nat) : Int)) h3.symm) ?_ | refine SChk.mk (by simp [roomOk]; omega) ?_ | refine SEx.of (x := arrI (clampN n) fun _ => 0) (by rw [rep_arrI]; exact own_arrI _ _ _) ?_ | refine SIf.ff rfl ?_ | refine SIf.tt rfl ?_ | refine SOpt.of rfl ?_ | refine SChk.mk rfl ?_ | refine SSame.mk rfl ?_ | refine SEx.of rfl ?_) <;> (conv => whnf)))
  refine hK _ (((Heap.Keeps.refl _ h).push _).push _) rfl ?_ ?_
  · rw [arrI_len]
    exact Heap.get_push_self _ _
  · exact Heap.gp (by show h.next ≠ h.next + 1; omega) (Heap.get_push_self _ _)

theorem now_ok {h : Heap} {c k m : Nat} {lo hi0 now : Nat → Int} (hc : h.get c = some (.cs (clkC k m lo hi0))) (hk : h.get k = some (.arr 1 (arrI m now))) (i : Int) {K : V → Heap → Prop}
    (hK : ∀ x, (0 ≤ i → i < m → x = now i.toNat) → (i < 0 ∨ m ≤ i → x = 0) → K (.i .i64 x) h) : ACall P 11 [.p (.g c) 0, .i .i64 i] h K := by
  refine fn_sp (hF 11 AF.f11 rfl) rfl ?_
  ((conv => whnf); repeat ((first | refine SIf.ff rfl ?_ | refine SIf.tt rfl ?_ | refine SOpt.of rfl ?_ | refine SChk.mk rfl ?_ | refine SSame.mk rfl ?_ | refine SEx.of rfl ?_) <;> (conv => whnf)))
  refine SIf.ds (fun h0 => ?_) (fun h0 => ?_)
  · ((conv => whnf); repeat ((first | refine SIf.ff rfl ?_ | refine SIf.tt rfl ?_ | refine SOpt.of rfl ?_ | refine SChk.mk rfl ?_ | refine SSame.mk rfl ?_ | refine SEx.of rfl ?_) <;> (conv => whnf)))
    exact hK 0 (by omega) (fun _ => rfl)
  · ((conv => whnf); repeat ((first | refine SIf.ff rfl ?_ | refine SIf.tt rfl ?_ | refine SOpt.of rfl ?_ | refine SChk.mk rfl ?_ | refine SSame.mk rfl ?_ | refine SEx.of (hc) ?_ | refine SEx.of rfl ?_) <;> (conv => whnf)))
    refine SIf.ds (fun h1 => ?_) (fun h1 => ?_)
    · ((conv => whnf); repeat ((first | refine SIf.ff rfl ?_ | refine SIf.tt rfl ?_ | refine SOpt.of rfl ?_ | refine SChk.mk rfl ?_ | refine SSame.mk rfl ?_ | refine SEx.of rfl ?_) <;> (conv => whnf)))
      exact hK 0 (by omega) (fun _ => rfl)
    · ((conv => whnf); repeat ((first | refine SChk.ix (by omega) (by omega) ?_ | refine SIf.ff rfl ?_ | refine SIf.tt rfl ?_ | refine SOpt.of rfl ?_ | refine SChk.mk rfl ?_ | refine SSame.mk rfl ?_ | refine SEx.of (hc) ?_ | refine SEx.of (hk) ?_ | refine SEx.of (arrI_get (j := i.toNat) (by simp) (by omega)) ?_ | refine SEx.of rfl ?_) <;> (conv => whnf)))
      exact hK _ (fun _ _ => rfl) (by omega)

theorem drift_ok {h : Heap} {c k m : Nat} {lo hi0 : Nat → Int} (hc : h.get c = some (.cs (clkC k m lo hi0))) (hm : m ≤ 8)
    (hb : ∀ i j, i < m → j < m → -2251799813685248 ≤ lo (i * 8 + j) ∧ lo (i * 8 + j) ≤ 2251799813685248 ∧ -2251799813685248 ≤ hi0 (i * 8 + j) ∧ hi0 (i * 8 + j) ≤ 2251799813685248) {K : V → Heap → Prop}
    (hK : ∀ d, 0 ≤ d → (∀ i j, i < m → j < m → hi0 (i * 8 + j) - lo (i * 8 + j) ≤ d) → (d = 0 ∨ ∃ i j, i < m ∧ j < m ∧ d = hi0 (i * 8 + j) - lo (i * 8 + j)) → K (.i .i64 d) h) :
    ACall P 19 [.p (.g c) 0] h K := by
  refine fn_sp (hF 19 AF.f19 rfl) rfl ?_
  ((conv => whnf); repeat ((first | refine SIf.ff rfl ?_ | refine SIf.tt rfl ?_ | refine SOpt.of rfl ?_ | refine SChk.mk rfl ?_ | refine SSame.mk rfl ?_ | refine SEx.of (hc) ?_ | refine SEx.of rfl ?_) <;> (conv => whnf)))
  refine SLoop.by (fun q fr st => ∃ (i : Nat) (d : Int), i ≤ m ∧ q = m - i ∧ 0 ≤ d ∧ (∀ i' j, i' < i → j < m → hi0 (i' * 8 + j) - lo (i' * 8 + j) ≤ d) ∧ (d = 0 ∨ ∃ i j, i < m ∧ j < m ∧ d = hi0 (i * 8 + j) - lo (i * 8 + j)) ∧
      Fr.le [(13, .i .i64 (i : Nat)), (12, .i .i64 m), (3, .i .i64 d), (0, .p (.g c) 0)] fr ∧ st = gst h)
    m ⟨0, 0, Nat.zero_le _, rfl, Int.le_refl _, fun i' j hi' => absurd hi' (Nat.not_lt_zero _), .inl rfl, Fr.le_cons rfl (Fr.le_cons rfl (Fr.le_cons rfl (Fr.le_cons rfl Fr.le_nil))), rfl⟩ ?_
  rintro q fr st ⟨i, d, hi, rfl, hd0, hd1, hd2, hle, rfl⟩
  refine ⟨_, hle, fun R hR => ?_⟩
  ((conv => whnf); repeat ((first | refine SIf.ff rfl ?_ | refine SIf.tt rfl ?_ | refine SOpt.of rfl ?_ | refine SChk.mk rfl ?_ | refine SSame.mk rfl ?_ | refine SEx.of rfl ?_) <;> (conv => whnf)))
  refine SIf.ds (fun hlt => ?_) (fun hge => ?_)
  · have hi' : i < m := by omega
    ((conv => whnf); repeat ((first | refine SIf.ff rfl ?_ | refine SIf.tt rfl ?_ | refine SOpt.of rfl ?_ | refine SChk.mk rfl ?_ | refine SSame.mk rfl ?_ | refine SEx.of (hc) ?_ | refine SEx.of rfl ?_) <;> (conv => whnf)))
    refine SLoop.by (fun q fr st => ∃ (j : Nat) (d : Int), j ≤ m ∧ q = m - j ∧ 0 ≤ d ∧ (∀ i' j, i' < i → j < m → hi0 (i' * 8 + j) - lo (i' * 8 + j) ≤ d) ∧ (∀ j', j' < j → hi0 (i * 8 + j') - lo (i * 8 + j') ≤ d) ∧
        (d = 0 ∨ ∃ i j, i < m ∧ j < m ∧ d = hi0 (i * 8 + j) - lo (i * 8 + j)) ∧
        Fr.le [(21, .i .i64 (j : Nat)), (20, .i .i64 m), (4, .i .i64 i), (13, .i .i64 (i : Nat)), (12, .i .i64 m), (3, .i .i64 d), (0, .p (.g c) 0)] fr ∧ st = gst h)
      m ⟨0, d, Nat.zero_le _, rfl, hd0, hd1, fun j' hj' => absurd hj' (Nat.not_lt_zero _), hd2, Fr.le_cons rfl (Fr.le_cons rfl (Fr.le_cons rfl (Fr.le_cons rfl (Fr.le_cons rfl (Fr.le_cons rfl (Fr.le_cons rfl Fr.le_nil)))))), rfl⟩ ?_
    clear hd0 hd1 hd2 hle
    rintro q fr st ⟨j, d, hj, rfl, hd0, hd1, hd3, hd2, hle, rfl⟩
    refine ⟨_, hle, fun R2 hR2 => ?_⟩
    ((conv => whnf); repeat ((first | refine SIf.ff rfl ?_ | refine SIf.tt rfl ?_ | refine SOpt.of rfl ?_ | refine SChk.mk rfl ?_ | refine SSame.mk rfl ?_ | refine SEx.of rfl ?_) <;> (conv => whnf)))
    refine SIf.ds (fun hlt => ?_) (fun hge => ?_)
    · have hj' : j < m := by omega
      have hbb := hb i j hi' hj'
      obtain ⟨e, he⟩ : ∃ e, e = maxI d (hi0 (i * 8 + j) - lo (i * 8 + j)) := ⟨_, rfl⟩
      have he1 : d ≤ e := by rw [he]; unfold maxI; split <;> omega
      have he2 : hi0 (i * 8 + j) - lo (i * 8 + j) ≤ e := by rw [he]; unfold maxI; split <;> omega
      have he3 : e = d ∨ e = hi0 (i * 8 + j) - lo (i * 8 + j) := by rw [he]; unfold maxI; split <;> omega
      ((conv => whnf); repeat ((first | refine SChk.ix (by omega) (by omega) ?_ | refine SOpt.of (clkC_lo (j := i * 8 + j) (by simp; omega) (by omega)) ?_ | refine SOpt.of (clkC_hi (j := i * 8 + j) (by simp; omega) (by omega)) ?_ | refine SWrap.w64 (by omega) (by omega) ?_ | refine SOpt.of (mx2 (z := e) he.symm) ?_ | refine SIf.ff rfl ?_ | refine SIf.tt rfl ?_ | refine SOpt.of rfl ?_ | refine SChk.mk rfl ?_ | refine SSame.mk rfl ?_ | refine SEx.of (hc) ?_ | refine SEx.of rfl ?_) <;> (conv => whnf)))
      refine hR2 (m - (j + 1)) _ _ (by omega) ⟨j + 1, e, by omega, rfl, by omega, fun i' j h1 h2 => Int.le_trans (hd1 i' j h1 h2) he1, fun j' hj2 => ?_, ?_, Fr.le_cons rfl (Fr.le_cons rfl (Fr.le_cons rfl (Fr.le_cons rfl (Fr.le_cons rfl (Fr.le_cons rfl (Fr.le_cons rfl Fr.le_nil)))))), rfl⟩
      · by_cases hjj : j' < j
        · exact Int.le_trans (hd3 j' hjj) he1
        · obtain rfl : j' = j := by omega
          exact he2
      · rcases he3 with h3 | h3
        · rw [h3]; exact hd2
        · exact .inr ⟨i, j, hi', hj', h3⟩
    · obtain rfl : j = m := by omega
      ((conv => whnf); repeat ((first | refine SWrap.w64 (by omega) (by omega) ?_ | refine SIf.ff rfl ?_ | refine SIf.tt rfl ?_ | refine SOpt.of rfl ?_ | refine SChk.mk rfl ?_ | refine SSame.mk rfl ?_ | refine SEx.of rfl ?_) <;> (conv => whnf)))
      refine hR (j - (i + 1)) _ _ (by omega) ⟨i + 1, d, by omega, rfl, hd0, fun i' j h1 h2 => ?_, hd2, Fr.le_cons rfl (Fr.le_cons rfl (Fr.le_cons rfl (Fr.le_cons rfl Fr.le_nil))), rfl⟩
      by_cases hii : i' < i
      · exact hd1 i' j hii h2
      · obtain rfl : i' = i := by omega
        exact hd3 j h2
  · obtain rfl : i = m := by omega
    ((conv => whnf); repeat ((first | refine SIf.ff rfl ?_ | refine SIf.tt rfl ?_ | refine SOpt.of rfl ?_ | refine SChk.mk rfl ?_ | refine SSame.mk rfl ?_ | refine SEx.of rfl ?_) <;> (conv => whnf)))
    exact hK d hd0 hd1 hd2
end
end Go.Eng
