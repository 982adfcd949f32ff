/-
A tick of clocks.
-/
import Derived.Test.YtomcdckppplieaaGreatClk0
set_option linter.unusedVariables false
set_option linter.unusedSimpArgs false
namespace Go.Eng
open Go
section
variable {P : Program} (hF : FnsOk P AF.fns.get)
include hF
theorem tick_ok {h : Heap} {c k m n : Nat} {lo hi0 now a : Nat → Int} (hc : h.get c = some (.cs (clkC k m lo hi0))) (hk : h.get k = some (.arr 1 (arrI m now))) (hck : c ≠ k) (hm : m ≤ 8)
    (hb : ∀ i, i < m → 0 ≤ now i ∧ now i ≤ 1125899906842624) {K : V → Heap → Prop}
    (hf : ¬ tickMay n m now a → K (.b false) h)
    (ht : tickMay n m now a → ∀ h', Heap.Keeps (fun j => j = c ∨ j = k) h h' → h'.get c = some (.cs (clkC k m (tickLo m (tickNow (min n m) now a) lo) (tickHi m (tickNow (min n m) now a) hi0))) →
      h'.get k = some (.arr 1 (arrI m (tickNow (min n m) now a))) → K (.b true) h') :
    ACall P 18 [.p (.g c) 0, .sl none 1 (arrI n a)] h K := by
  have hl := arrI_len n a
  obtain ⟨L, hL⟩ : ∃ L, L = min n m := ⟨_, rfl⟩
  have hlL := arrI_len L a
  rw [← hL] at ht
  refine fn_sp (hF 18 AF.f18 rfl) rfl ?_
  ((conv => whnf); repeat ((first | refine SOpt.of (mn2 (z := (L : Int)) (by rw [arrI_len]; split <;> omega)) ?_ | refine SChk.d3 (by omega) (by omega) (by omega) ?_ | refine SEx.of (x := arrI L a) (by rw [← arrI_take L (by omega : L ≤ n)]; rfl) ?_ | refine SIf.ff rfl ?_ | refine SIf.tt rfl ?_ | refine SOpt.of rfl ?_ | refine SChk.mk rfl ?_ | refine SSame.mk rfl ?_ | refine SEx.of (hc) ?_ | refine SEx.of rfl ?_) <;> (conv => whnf)))
  refine SLoop.by (fun q fr st => ∃ i : Nat, i ≤ L ∧ q = L - i ∧ (∀ j, j < i → 0 ≤ a j ∧ a j ≤ 1000000 ∧ now j + a j ≤ 1125899906842624) ∧ Fr.le [(27, .i .i64 i), (26, .i .i64 (arrI L a).length), (25, .sl none 1 (arrI L a)), (1, .sl none 1 (arrI L a)), (0, .p (.g c) 0)] fr ∧ st = gst h)
    L ⟨0, Nat.zero_le _, rfl, fun j hj => absurd hj (Nat.not_lt_zero _), Fr.le_cons rfl (Fr.le_cons rfl (Fr.le_cons rfl (Fr.le_cons rfl (Fr.le_cons rfl Fr.le_nil)))), rfl⟩ ?_
  rintro q fr st ⟨i, hi, rfl, hok, hle, rfl⟩
  refine ⟨_, hle, fun R hR => ?_⟩
  ((conv => whnf); repeat ((first | refine SIf.ff rfl ?_ | refine SIf.tt rfl ?_ | refine SOpt.of rfl ?_ | refine SChk.mk rfl ?_ | refine SSame.mk rfl ?_ | refine SEx.of rfl ?_) <;> (conv => whnf)))
  refine SIf.ds (fun hlt => ?_) (fun hge => ?_)
  · have hi' : i < L := by omega
    ((conv => whnf); repeat ((first | refine SChk.ix (by omega) (by omega) ?_ | refine SIf.ff rfl ?_ | refine SIf.tt rfl ?_ | refine SOpt.of rfl ?_ | refine SChk.mk rfl ?_ | refine SSame.mk rfl ?_ | refine SEx.of (arrI_get (j := i) (by simp) hi') ?_ | refine SEx.of rfl ?_) <;> (conv => whnf)))
    refine SIf.ds (fun h0 => ?_) (fun h0 => ?_)
    · ((conv => whnf); repeat ((first | refine SIf.ff rfl ?_ | refine SIf.tt rfl ?_ | refine SOpt.of rfl ?_ | refine SChk.mk rfl ?_ | refine SSame.mk rfl ?_ | refine SEx.of rfl ?_) <;> (conv => whnf)))
      exact hf fun hmay => by have := hmay i (by omega); omega
    · ((conv => whnf); repeat ((first | refine SIf.ff rfl ?_ | refine SIf.tt rfl ?_ | refine SOpt.of rfl ?_ | refine SChk.mk rfl ?_ | refine SSame.mk rfl ?_ | refine SEx.of rfl ?_) <;> (conv => whnf)))
      refine SIf.ds (fun h1 => ?_) (fun h1 => ?_)
      · ((conv => whnf); repeat ((first | refine SIf.ff rfl ?_ | refine SIf.tt rfl ?_ | refine SOpt.of rfl ?_ | refine SChk.mk rfl ?_ | refine SSame.mk rfl ?_ | refine SEx.of rfl ?_) <;> (conv => whnf)))
        exact hf fun hmay => by have := hmay i (by omega); omega
      · have hbi := hb i (by omega)
        ((conv => whnf); repeat ((first | refine SChk.ix (by omega) (by omega) ?_ | refine SWrap.w64 (by omega) (by omega) ?_ | refine SIf.ff rfl ?_ | refine SIf.tt rfl ?_ | refine SOpt.of rfl ?_ | refine SChk.mk rfl ?_ | refine SSame.mk rfl ?_ | refine SEx.of (hc) ?_ | refine SEx.of (hk) ?_ | refine SEx.of (arrI_get (j := i) (by simp) (by omega)) ?_ | refine SEx.of rfl ?_) <;> (conv => whnf)))
        refine SIf.ds (fun h2 => ?_) (fun h2 => ?_)
        · ((conv => whnf); repeat ((first | refine SIf.ff rfl ?_ | refine SIf.tt rfl ?_ | refine SOpt.of rfl ?_ | refine SChk.mk rfl ?_ | refine SSame.mk rfl ?_ | refine SEx.of rfl ?_) <;> (conv => whnf)))
          exact hf fun hmay => by have := hmay i (by omega); omega
        · ((conv => whnf); repeat ((first | refine SWrap.w64 (by omega) (by omega) ?_ | refine SIf.ff rfl ?_ | refine SIf.tt rfl ?_ | refine SOpt.of rfl ?_ | refine SChk.mk rfl ?_ | refine SSame.mk rfl ?_ | refine SEx.of rfl ?_) <;> (conv => whnf)))
          refine hR (L - (i + 1)) _ _ (by omega) ⟨i + 1, by omega, rfl, ?_, Fr.le_cons rfl (Fr.le_cons rfl (Fr.le_cons rfl (Fr.le_cons rfl (Fr.le_cons rfl Fr.le_nil)))), rfl⟩
          intro j hj
          by_cases hji : j < i
          · exact hok j hji
          · have : j = i := by omega
            subst this
            omega
  · have hmay : tickMay n m now a := fun j hj => hok j (by omega)
    replace ht := ht hmay
    ((conv => whnf); repeat ((first | refine SIf.ff rfl ?_ | refine SIf.tt rfl ?_ | refine SOpt.of rfl ?_ | refine SChk.mk rfl ?_ | refine SSame.mk rfl ?_ | refine SEx.of rfl ?_) <;> (conv => whnf)))
    refine SLoop.by (fun q fr st => ∃ i h', i ≤ L ∧ q = L - i ∧ Heap.Keeps (fun j => j = c ∨ j = k) h h' ∧ h'.get c = some (.cs (clkC k m lo hi0)) ∧ h'.get k = some (.arr 1 (arrI m (tickNow i now a))) ∧
        Fr.le [(53, .i .i64 (i : Nat)), (52, .i .i64 (arrI L a).length), (51, .sl none 1 (arrI L a)), (0, .p (.g c) 0)] fr ∧ st = gst h')
      L ⟨0, h, Nat.zero_le _, rfl, .refl _ _, hc, by rw [hk]; rfl, Fr.le_cons rfl (Fr.le_cons rfl (Fr.le_cons rfl (Fr.le_cons rfl Fr.le_nil))), rfl⟩ ?_
    rintro q fr st ⟨i, h', hi, rfl, hkp, hc', hk', hle, rfl⟩
    refine ⟨_, hle, fun R hR => ?_⟩
    ((conv => whnf); repeat ((first | refine SIf.ff rfl ?_ | refine SIf.tt rfl ?_ | refine SOpt.of rfl ?_ | refine SChk.mk rfl ?_ | refine SSame.mk rfl ?_ | refine SEx.of rfl ?_) <;> (conv => whnf)))
    refine SIf.ds (fun hlt => ?_) (fun hge => ?_)
    · have hi' : i < L := by omega
      have hni : tickNow i now a i = now i := by simp [tickNow]
      have := hmay i (by omega)
      have hbi := hb i (by omega)
      have hset : arrI m (fun q => if q = i then tickNow i now a i + a i else tickNow i now a q) = arrI m (tickNow (i + 1) now a) := arrI_congr fun q hq => by
        unfold tickNow
        by_cases hqi : q = i
        · subst hqi; simp
        · rw [if_neg hqi]
          by_cases hq2 : q < i
          · rw [if_pos hq2, if_pos (by omega)]
          · rw [if_neg hq2, if_neg (by omega)]
      ((conv => whnf); repeat ((first | refine SChk.ix (by omega) (by omega) ?_ | refine SWrap.w64 (by omega) (by omega) ?_ | refine SEx.of (congrArg some ((arrI_set (j := i) (by simp) _).trans hset)) ?_ | refine SIf.ff rfl ?_ | refine SIf.tt rfl ?_ | refine SOpt.of rfl ?_ | refine SChk.mk rfl ?_ | refine SSame.mk rfl ?_ | refine SEx.of (hc') ?_ | refine SEx.of (hk') ?_ | refine SEx.of (arrI_get (j := i) (by simp) hi') ?_ | refine SEx.of (arrI_get (j := i) (by simp) (by omega)) ?_ | refine SEx.of rfl ?_) <;> (conv => whnf)))
      refine hR (L - (i + 1)) _ _ (by omega) ⟨i + 1, h'.set k _, by omega, rfl, hkp.set (.inl (.inr rfl)) _, Heap.gs hck hc', Heap.get_set_self hk', Fr.le_cons rfl (Fr.le_cons rfl (Fr.le_cons rfl (Fr.le_cons rfl Fr.le_nil))), rfl⟩
    · obtain rfl : i = L := by omega
      obtain ⟨N, hN⟩ : ∃ N, N = tickNow i now a := ⟨_, rfl⟩
      rw [← hN] at ht hk'
      have hNb : ∀ j, j < m → 0 ≤ N j ∧ N j ≤ 1125899906842624 := by
        intro j hj
        rw [hN]
        unfold tickNow
        have := hb j hj
        split
        · rename_i hji
          have := hmay j (by omega)
          omega
        · exact this
      ((conv => whnf); repeat ((first | refine SIf.ff rfl ?_ | refine SIf.tt rfl ?_ | refine SOpt.of rfl ?_ | refine SChk.mk rfl ?_ | refine SSame.mk rfl ?_ | refine SEx.of (hc') ?_ | refine SEx.of rfl ?_) <;> (conv => whnf)))
      refine SLoop.by (fun q fr st => ∃ i h', i ≤ m ∧ q = m - i ∧ Heap.Keeps (fun j => j = c ∨ j = k) h h' ∧ h'.get c = some (.cs (clkC k m (someLo m N lo i 0) (someHi m N hi0 i 0))) ∧ h'.get k = some (.arr 1 (arrI m N)) ∧
          Fr.le [(74, .i .i64 (i : Nat)), (73, .i .i64 m), (72, .ms (.g k) 1 0 m), (0, .p (.g c) 0)] fr ∧ st = gst h')
        m ⟨0, h', Nat.zero_le _, rfl, hkp, by rw [hc']; congr 2; exact clkC_congr (fun j hj => by simp [someLo]) (fun j hj => by simp [someHi]), hk', Fr.le_cons rfl (Fr.le_cons rfl (Fr.le_cons rfl (Fr.le_cons rfl Fr.le_nil))), rfl⟩ ?_
      clear hkp hc' hk' hle
      rintro q fr st ⟨i, h', hi, rfl, hkp, hc', hk', hle, rfl⟩
      refine ⟨_, hle, fun R hR => ?_⟩
      ((conv => whnf); repeat ((first | refine SIf.ff rfl ?_ | refine SIf.tt rfl ?_ | refine SOpt.of rfl ?_ | refine SChk.mk rfl ?_ | refine SSame.mk rfl ?_ | refine SEx.of rfl ?_) <;> (conv => whnf)))
      refine SIf.ds (fun hlt => ?_) (fun hge => ?_)
      · have hi' : i < m := by omega
        have hNi := hNb i hi'
        ((conv => whnf); repeat ((first | refine SChk.ix (by omega) (by omega) ?_ | refine SIf.ff rfl ?_ | refine SIf.tt rfl ?_ | refine SOpt.of rfl ?_ | refine SChk.mk rfl ?_ | refine SSame.mk rfl ?_ | refine SEx.of (hc') ?_ | refine SEx.of (hk') ?_ | refine SEx.of (arrI_get (j := i) (by simp) (by omega)) ?_ | refine SEx.of rfl ?_) <;> (conv => whnf)))
        refine SLoop.by (fun q fr st => ∃ j h', j ≤ m ∧ q = m - j ∧ Heap.Keeps (fun j => j = c ∨ j = k) h h' ∧ h'.get c = some (.cs (clkC k m (someLo m N lo i j) (someHi m N hi0 i j))) ∧ h'.get k = some (.arr 1 (arrI m N)) ∧
            Fr.le [(84, .i .i64 (j : Nat)), (83, .i .i64 m), (82, .ms (.g k) 1 0 m), (10, .i .i64 (N i)), (9, .i .i64 i), (74, .i .i64 (i : Nat)), (73, .i .i64 m), (72, .ms (.g k) 1 0 m), (0, .p (.g c) 0)] fr ∧ st = gst h')
          m ⟨0, h', Nat.zero_le _, rfl, hkp, hc', hk', Fr.le_cons rfl (Fr.le_cons rfl (Fr.le_cons rfl (Fr.le_cons rfl (Fr.le_cons rfl (Fr.le_cons rfl (Fr.le_cons rfl (Fr.le_cons rfl (Fr.le_cons rfl Fr.le_nil)))))))), rfl⟩ ?_
        clear hkp hc' hk' hle
        rintro q fr st ⟨j, h', hj, rfl, hkp, hc', hk', hle, rfl⟩
        refine ⟨_, hle, fun R2 hR2 => ?_⟩
        ((conv => whnf); repeat ((first | refine SIf.ff rfl ?_ | refine SIf.tt rfl ?_ | refine SOpt.of rfl ?_ | refine SChk.mk rfl ?_ | refine SSame.mk rfl ?_ | refine SEx.of rfl ?_) <;> (conv => whnf)))
        refine SIf.ds (fun hlt => ?_) (fun hge => ?_)
        · have hj' : j < m := by omega
          have hNj := hNb j hj'
          ((conv => whnf); repeat ((first | refine SChk.ix (by omega) (by omega) ?_ | refine SOpt.of (clkC_lo (j := i * 8 + j) (by simp; omega) (by omega)) ?_ | refine SOpt.of (clkC_hi (j := i * 8 + j) (by simp; omega) (by omega)) ?_ | refine SWrap.w64 (by omega) (by omega) ?_ | refine SChk.mk (clkC_fits (by simp; omega)) ?_ | refine SEx.of (congrArg some ((clkC_setlo (j := i * 8 + j) (by simp; omega) (by omega) _).trans (clkC_congr (lo' := someLo m N lo i (j + 1)) (fun q _ => someLo_step hi' hj' hm q) (fun q _ => rfl)))) ?_ | refine SEx.of (congrArg some ((clkC_sethi (j := i * 8 + j) (by simp; omega) (by omega) _).trans (clkC_congr (hi' := someHi m N hi0 i (j + 1)) (fun q _ => rfl) (fun q _ => someHi_step hi' hj' hm q)))) ?_ | refine SIf.ff rfl ?_ | refine SIf.tt rfl ?_ | refine SOpt.of rfl ?_ | refine SChk.mk rfl ?_ | refine SSame.mk rfl ?_ | refine SEx.of (hc') ?_ | refine SEx.of (hk') ?_ | refine SEx.of (Heap.get_set_self hc') ?_ | refine SEx.of (arrI_get (j := j) (by simp) (by omega)) ?_ | refine SEx.of rfl ?_) <;> (conv => whnf)))
          refine hR2 (m - (j + 1)) _ _ (by omega) ⟨j + 1, (h'.set c _).set c _, by omega, rfl, (hkp.set (.inl (.inl rfl)) _).set (.inl (.inl rfl)) _, Heap.get_set_self (Heap.get_set_self hc'), Heap.gs hck.symm (Heap.gs hck.symm hk'), Fr.le_cons rfl (Fr.le_cons rfl (Fr.le_cons rfl (Fr.le_cons rfl (Fr.le_cons rfl (Fr.le_cons rfl (Fr.le_cons rfl (Fr.le_cons rfl (Fr.le_cons rfl Fr.le_nil)))))))), rfl⟩
        · obtain rfl : j = m := by omega
          ((conv => whnf); repeat ((first | refine SWrap.w64 (by omega) (by omega) ?_ | refine SIf.ff rfl ?_ | refine SIf.tt rfl ?_ | refine SOpt.of rfl ?_ | refine SChk.mk rfl ?_ | refine SSame.mk rfl ?_ | refine SEx.of rfl ?_) <;> (conv => whnf)))
          refine hR (j - (i + 1)) _ _ (by omega) ⟨i + 1, h', by omega, rfl, hkp, ?_, hk', Fr.le_cons rfl (Fr.le_cons rfl (Fr.le_cons rfl (Fr.le_cons rfl Fr.le_nil))), rfl⟩
          rw [hc', clkC_congr (fun q _ => someLo_row q) (fun q _ => someHi_row q)]
      · obtain rfl : i = m := by omega
        ((conv => whnf); repeat ((first | refine SIf.ff rfl ?_ | refine SIf.tt rfl ?_ | refine SOpt.of rfl ?_ | refine SChk.mk rfl ?_ | refine SSame.mk rfl ?_ | refine SEx.of rfl ?_) <;> (conv => whnf)))
        refine ht h' hkp ?_ hk'
        rw [hc', clkC_congr (fun q _ => someLo_end q) (fun q _ => someHi_end q)]
theorem tick_ms {h : Heap} {c k m n b nb : Nat} {lo hi0 now a : Nat → Int} (hc : h.get c = some (.cs (clkC k m lo hi0))) (hk : h.get k = some (.arr 1 (arrI m now))) (hck : c ≠ k) (hm : m ≤ 8) (hbb : h.get b = some (.arr 1 (arrI nb a))) (hnb : n ≤ nb) (hkb : b ≠ k)
    (hb : ∀ i, i < m → 0 ≤ now i ∧ now i ≤ 1125899906842624) {K : V → Heap → Prop}
    (hf : ¬ tickMay n m now a → K (.b false) h)
    (ht : tickMay n m now a → ∀ h', Heap.Keeps (fun j => j = c ∨ j = k) h h' → h'.get c = some (.cs (clkC k m (tickLo m (tickNow (min n m) now a) lo) (tickHi m (tickNow (min n m) now a) hi0))) →
      h'.get k = some (.arr 1 (arrI m (tickNow (min n m) now a))) → K (.b true) h') :
    ACall P 18 [.p (.g c) 0, .ms (.g b) 1 0 n] h K := by
  have hl := arrI_len nb a
  obtain ⟨L, hL⟩ : ∃ L, L = min n m := ⟨_, rfl⟩
  rw [← hL] at ht
  refine fn_sp (hF 18 AF.f18 rfl) rfl ?_
  ((conv => whnf); repeat ((first | refine SOpt.of (mn2 (z := (L : Int)) (by split <;> omega)) ?_ | refine SChk.d3 (by omega) (by omega) (by omega) ?_ | refine SIf.ff rfl ?_ | refine SIf.tt rfl ?_ | refine SOpt.of rfl ?_ | refine SChk.mk rfl ?_ | refine SSame.mk rfl ?_ | refine SEx.of (hc) ?_ | refine SEx.of (hbb) ?_ | refine SEx.of rfl ?_) <;> (conv => whnf)))
  refine SLoop.by (fun q fr st => ∃ i : Nat, i ≤ L ∧ q = L - i ∧ (∀ j, j < i → 0 ≤ a j ∧ a j ≤ 1000000 ∧ now j + a j ≤ 1125899906842624) ∧ Fr.le [(27, .i .i64 i), (26, .i .i64 L), (25, .ms (.g b) 1 0 L), (1, .ms (.g b) 1 0 L), (0, .p (.g c) 0)] fr ∧ st = gst h)
    L ⟨0, Nat.zero_le _, rfl, fun j hj => absurd hj (Nat.not_lt_zero _), Fr.le_cons rfl (Fr.le_cons rfl (Fr.le_cons rfl (Fr.le_cons rfl (Fr.le_cons rfl Fr.le_nil)))), rfl⟩ ?_
  rintro q fr st ⟨i, hi, rfl, hok, hle, rfl⟩
  refine ⟨_, hle, fun R hR => ?_⟩
  ((conv => whnf); repeat ((first | refine SIf.ff rfl ?_ | refine SIf.tt rfl ?_ | refine SOpt.of rfl ?_ | refine SChk.mk rfl ?_ | refine SSame.mk rfl ?_ | refine SEx.of rfl ?_) <;> (conv => whnf)))
  refine SIf.ds (fun hlt => ?_) (fun hge => ?_)
  · have hi' : i < L := by omega
    ((conv => whnf); repeat ((first | refine SChk.ix (by omega) (by omega) ?_ | refine SIf.ff rfl ?_ | refine SIf.tt rfl ?_ | refine SOpt.of rfl ?_ | refine SChk.mk rfl ?_ | refine SSame.mk rfl ?_ | refine SEx.of (hbb) ?_ | refine SEx.of (arrI_get (j := i) (by simp) (by omega)) ?_ | refine SEx.of rfl ?_) <;> (conv => whnf)))
    refine SIf.ds (fun h0 => ?_) (fun h0 => ?_)
    · ((conv => whnf); repeat ((first | refine SIf.ff rfl ?_ | refine SIf.tt rfl ?_ | refine SOpt.of rfl ?_ | refine SChk.mk rfl ?_ | refine SSame.mk rfl ?_ | refine SEx.of rfl ?_) <;> (conv => whnf)))
      exact hf fun hmay => by have := hmay i (by omega); omega
    · ((conv => whnf); repeat ((first | refine SIf.ff rfl ?_ | refine SIf.tt rfl ?_ | refine SOpt.of rfl ?_ | refine SChk.mk rfl ?_ | refine SSame.mk rfl ?_ | refine SEx.of rfl ?_) <;> (conv => whnf)))
      refine SIf.ds (fun h1 => ?_) (fun h1 => ?_)
      · ((conv => whnf); repeat ((first | refine SIf.ff rfl ?_ | refine SIf.tt rfl ?_ | refine SOpt.of rfl ?_ | refine SChk.mk rfl ?_ | refine SSame.mk rfl ?_ | refine SEx.of rfl ?_) <;> (conv => whnf)))
        exact hf fun hmay => by have := hmay i (by omega); omega
      · have hbi := hb i (by omega)
        ((conv => whnf); repeat ((first | refine SChk.ix (by omega) (by omega) ?_ | refine SWrap.w64 (by omega) (by omega) ?_ | refine SIf.ff rfl ?_ | refine SIf.tt rfl ?_ | refine SOpt.of rfl ?_ | refine SChk.mk rfl ?_ | refine SSame.mk rfl ?_ | refine SEx.of (hc) ?_ | refine SEx.of (hk) ?_ | refine SEx.of (hbb) ?_ | refine SEx.of (arrI_get (j := i) (by simp) (by omega)) ?_ | refine SEx.of rfl ?_) <;> (conv => whnf)))
        refine SIf.ds (fun h2 => ?_) (fun h2 => ?_)
        · ((conv => whnf); repeat ((first | refine SIf.ff rfl ?_ | refine SIf.tt rfl ?_ | refine SOpt.of rfl ?_ | refine SChk.mk rfl ?_ | refine SSame.mk rfl ?_ | refine SEx.of rfl ?_) <;> (conv => whnf)))
          exact hf fun hmay => by have := hmay i (by omega); omega
        · ((conv => whnf); repeat ((first | refine SWrap.w64 (by omega) (by omega) ?_ | refine SIf.ff rfl ?_ | refine SIf.tt rfl ?_ | refine SOpt.of rfl ?_ | refine SChk.mk rfl ?_ | refine SSame.mk rfl ?_ | refine SEx.of rfl ?_) <;> (conv => whnf)))
          refine hR (L - (i + 1)) _ _ (by omega) ⟨i + 1, by omega, rfl, ?_, Fr.le_cons rfl (Fr.le_cons rfl (Fr.le_cons rfl (Fr.le_cons rfl (Fr.le_cons rfl Fr.le_nil)))), rfl⟩
          intro j hj
          by_cases hji : j < i
          · exact hok j hji
          · have : j = i := by omega
            subst this
            omega
  · have hmay : tickMay n m now a := fun j hj => hok j (by omega)
    replace ht := ht hmay
    ((conv => whnf); repeat ((first | refine SIf.ff rfl ?_ | refine SIf.tt rfl ?_ | refine SOpt.of rfl ?_ | refine SChk.mk rfl ?_ | refine SSame.mk rfl ?_ | refine SEx.of rfl ?_) <;> (conv => whnf)))
    refine SLoop.by (fun q fr st => ∃ i h', i ≤ L ∧ q = L - i ∧ Heap.Keeps (fun j => j = c ∨ j = k) h h' ∧ h'.get c = some (.cs (clkC k m lo hi0)) ∧ h'.get k = some (.arr 1 (arrI m (tickNow i now a))) ∧ h'.get b = some (.arr 1 (arrI nb a)) ∧
        Fr.le [(53, .i .i64 (i : Nat)), (52, .i .i64 L), (51, .ms (.g b) 1 0 L), (0, .p (.g c) 0)] fr ∧ st = gst h')
      L ⟨0, h, Nat.zero_le _, rfl, .refl _ _, hc, by rw [hk]; rfl, hbb, Fr.le_cons rfl (Fr.le_cons rfl (Fr.le_cons rfl (Fr.le_cons rfl Fr.le_nil))), rfl⟩ ?_
    rintro q fr st ⟨i, h', hi, rfl, hkp, hc', hk', hb', hle, rfl⟩
    refine ⟨_, hle, fun R hR => ?_⟩
    ((conv => whnf); repeat ((first | refine SIf.ff rfl ?_ | refine SIf.tt rfl ?_ | refine SOpt.of rfl ?_ | refine SChk.mk rfl ?_ | refine SSame.mk rfl ?_ | refine SEx.of rfl ?_) <;> (conv => whnf)))
    refine SIf.ds (fun hlt => ?_) (fun hge => ?_)
    · have hi' : i < L := by omega
      have hni : tickNow i now a i = now i := by simp [tickNow]
      have := hmay i (by omega)
      have hbi := hb i (by omega)
      have hset : arrI m (fun q => if q = i then tickNow i now a i + a i else tickNow i now a q) = arrI m (tickNow (i + 1) now a) := arrI_congr fun q hq => by
        unfold tickNow
        by_cases hqi : q = i
        · subst hqi; simp
        · rw [if_neg hqi]
          by_cases hq2 : q < i
          · rw [if_pos hq2, if_pos (by omega)]
          · rw [if_neg hq2, if_neg (by omega)]
      ((conv => whnf); repeat ((first | refine SChk.ix (by omega) (by omega) ?_ | refine SWrap.w64 (by omega) (by omega) ?_ | refine SEx.of (congrArg some ((arrI_set (j := i) (by simp) _).trans hset)) ?_ | refine SIf.ff rfl ?_ | refine SIf.tt rfl ?_ | refine SOpt.of rfl ?_ | refine SChk.mk rfl ?_ | refine SSame.mk rfl ?_ | refine SEx.of (hc') ?_ | refine SEx.of (hk') ?_ | refine SEx.of (hb') ?_ | refine SEx.of (arrI_get (j := i) (by simp) (by omega)) ?_ | refine SEx.of rfl ?_) <;> (conv => whnf)))
      refine hR (L - (i + 1)) _ _ (by omega) ⟨i + 1, h'.set k _, by omega, rfl, hkp.set (.inl (.inr rfl)) _, Heap.gs hck hc', Heap.get_set_self hk', Heap.gs hkb hb', Fr.le_cons rfl (Fr.le_cons rfl (Fr.le_cons rfl (Fr.le_cons rfl Fr.le_nil))), rfl⟩
    · obtain rfl : i = L := by omega
      obtain ⟨N, hN⟩ : ∃ N, N = tickNow i now a := ⟨_, rfl⟩
      rw [← hN] at ht hk'
      have hNb : ∀ j, j < m → 0 ≤ N j ∧ N j ≤ 1125899906842624 := by
        intro j hj
        rw [hN]
        unfold tickNow
        have := hb j hj
        split
        · rename_i hji
          have := hmay j (by omega)
          omega
        · exact this
      ((conv => whnf); repeat ((first | refine SIf.ff rfl ?_ | refine SIf.tt rfl ?_ | refine SOpt.of rfl ?_ | refine SChk.mk rfl ?_ | refine SSame.mk rfl ?_ | refine SEx.of (hc') ?_ | refine SEx.of rfl ?_) <;> (conv => whnf)))
      refine SLoop.by (fun q fr st => ∃ i h', i ≤ m ∧ q = m - i ∧ Heap.Keeps (fun j => j = c ∨ j = k) h h' ∧ h'.get c = some (.cs (clkC k m (someLo m N lo i 0) (someHi m N hi0 i 0))) ∧ h'.get k = some (.arr 1 (arrI m N)) ∧
          Fr.le [(74, .i .i64 (i : Nat)), (73, .i .i64 m), (72, .ms (.g k) 1 0 m), (0, .p (.g c) 0)] fr ∧ st = gst h')
        m ⟨0, h', Nat.zero_le _, rfl, hkp, by rw [hc']; congr 2; exact clkC_congr (fun j hj => by simp [someLo]) (fun j hj => by simp [someHi]), hk', Fr.le_cons rfl (Fr.le_cons rfl (Fr.le_cons rfl (Fr.le_cons rfl Fr.le_nil))), rfl⟩ ?_
      clear hkp hc' hk' hle
      rintro q fr st ⟨i, h', hi, rfl, hkp, hc', hk', hle, rfl⟩
      refine ⟨_, hle, fun R hR => ?_⟩
      ((conv => whnf); repeat ((first | refine SIf.ff rfl ?_ | refine SIf.tt rfl ?_ | refine SOpt.of rfl ?_ | refine SChk.mk rfl ?_ | refine SSame.mk rfl ?_ | refine SEx.of rfl ?_) <;> (conv => whnf)))
      refine SIf.ds (fun hlt => ?_) (fun hge => ?_)
      · have hi' : i < m := by omega
        have hNi := hNb i hi'
        ((conv => whnf); repeat ((first | refine SChk.ix (by omega) (by omega) ?_ | refine SIf.ff rfl ?_ | refine SIf.tt rfl ?_ | refine SOpt.of rfl ?_ | refine SChk.mk rfl ?_ | refine SSame.mk rfl ?_ | refine SEx.of (hc') ?_ | refine SEx.of (hk') ?_ | refine SEx.of (arrI_get (j := i) (by simp) (by omega)) ?_ | refine SEx.of rfl ?_) <;> (conv => whnf)))
        refine SLoop.by (fun q fr st => ∃ j h', j ≤ m ∧ q = m - j ∧ Heap.Keeps (fun j => j = c ∨ j = k) h h' ∧ h'.get c = some (.cs (clkC k m (someLo m N lo i j) (someHi m N hi0 i j))) ∧ h'.get k = some (.arr 1 (arrI m N)) ∧
            Fr.le [(84, .i .i64 (j : Nat)), (83, .i .i64 m), (82, .ms (.g k) 1 0 m), (10, .i .i64 (N i)), (9, .i .i64 i), (74, .i .i64 (i : Nat)), (73, .i .i64 m), (72, .ms (.g k) 1 0 m), (0, .p (.g c) 0)] fr ∧ st = gst h')
          m ⟨0, h', Nat.zero_le _, rfl, hkp, hc', hk', Fr.le_cons rfl (Fr.le_cons rfl (Fr.le_cons rfl (Fr.le_cons rfl (Fr.le_cons rfl (Fr.le_cons rfl (Fr.le_cons rfl (Fr.le_cons rfl (Fr.le_cons rfl Fr.le_nil)))))))), rfl⟩ ?_
        clear hkp hc' hk' hle
        rintro q fr st ⟨j, h', hj, rfl, hkp, hc', hk', hle, rfl⟩
        refine ⟨_, hle, fun R2 hR2 => ?_⟩
        ((conv => whnf); repeat ((first | refine SIf.ff rfl ?_ | refine SIf.tt rfl ?_ | refine SOpt.of rfl ?_ | refine SChk.mk rfl ?_ | refine SSame.mk rfl ?_ | refine SEx.of rfl ?_) <;> (conv => whnf)))
        refine SIf.ds (fun hlt => ?_) (fun hge => ?_)
        · have hj' : j < m := by omega
          have hNj := hNb j hj'
          ((conv => whnf); repeat ((first | refine SChk.ix (by omega) (by omega) ?_ | refine SOpt.of (clkC_lo (j := i * 8 + j) (by simp; omega) (by omega)) ?_ | refine SOpt.of (clkC_hi (j := i * 8 + j) (by simp; omega) (by omega)) ?_ | refine SWrap.w64 (by omega) (by omega) ?_ | refine SChk.mk (clkC_fits (by simp; omega)) ?_ | refine SEx.of (congrArg some ((clkC_setlo (j := i * 8 + j) (by simp; omega) (by omega) _).trans (clkC_congr (lo' := someLo m N lo i (j + 1)) (fun q _ => someLo_step hi' hj' hm q) (fun q _ => rfl)))) ?_ | refine SEx.of (congrArg some ((clkC_sethi (j := i * 8 + j) (by simp; omega) (by omega) _).trans (clkC_congr (hi' := someHi m N hi0 i (j + 1)) (fun q _ => rfl) (fun q _ => someHi_step hi' hj' hm q)))) ?_ | refine SIf.ff rfl ?_ | refine SIf.tt rfl ?_ | refine SOpt.of rfl ?_ | refine SChk.mk rfl ?_ | refine SSame.mk rfl ?_ | refine SEx.of (hc') ?_ | refine SEx.of (hk') ?_ | refine SEx.of (Heap.get_set_self hc') ?_ | refine SEx.of (arrI_get (j := j) (by simp) (by omega)) ?_ | refine SEx.of rfl ?_) <;> (conv => whnf)))
          refine hR2 (m - (j + 1)) _ _ (by omega) ⟨j + 1, (h'.set c _).set c _, by omega, rfl, (hkp.set (.inl (.inl rfl)) _).set (.inl (.inl rfl)) _, Heap.get_set_self (Heap.get_set_self hc'), Heap.gs hck.symm (Heap.gs hck.symm hk'), Fr.le_cons rfl (Fr.le_cons rfl (Fr.le_cons rfl (Fr.le_cons rfl (Fr.le_cons rfl (Fr.le_cons rfl (Fr.le_cons rfl (Fr.le_cons rfl (Fr.le_cons rfl Fr.le_nil)))))))), rfl⟩
        · obtain rfl : j = m := by omega
          ((conv => whnf); repeat ((first | refine SWrap.w64 (by omega) (by omega) ?_ | refine SIf.ff rfl ?_ | refine SIf.tt rfl ?_ | refine SOpt.of rfl ?_ | refine SChk.mk rfl ?_ | refine SSame.mk rfl ?_ | refine SEx.of rfl ?_) <;> (conv => whnf)))
          refine hR (j - (i + 1)) _ _ (by omega) ⟨i + 1, h', by omega, rfl, hkp, ?_, hk', Fr.le_cons rfl (Fr.le_cons rfl (Fr.le_cons rfl (Fr.le_cons rfl Fr.le_nil))), rfl⟩
          rw [hc', clkC_congr (fun q _ => someLo_row q) (fun q _ => someHi_row q)]
      · obtain rfl : i = m := by omega
        ((conv => whnf); repeat ((first | refine SIf.ff rfl ?_ | refine SIf.tt rfl ?_ | refine SOpt.of rfl ?_ | refine SChk.mk rfl ?_ | refine SSame.mk rfl ?_ | refine SEx.of rfl ?_) <;> (conv => whnf)))
        refine ht h' hkp ?_ hk'
        rw [hc', clkC_congr (fun q _ => someLo_end q) (fun q _ => someHi_end q)]
end
end Go.Eng
