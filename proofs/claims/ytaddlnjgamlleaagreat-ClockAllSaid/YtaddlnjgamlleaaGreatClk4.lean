/-
The document's clocks: all moments.
-/
import Derived.Test.YtaddlnjgamlleaaGreatClk3
import Derived.Test.YtaddlnjgamlleaaGreatLaw8
import Derived.Test.YtaddlnjgamlleaaGreatAh
namespace Go.Eng
open Go
def arrP (m T : Nat) (wk : Nat → Nat) : List (List V) := (List.range (T + 1)).map fun t => [V.ms (.g (wk t)) 1 0 m]
theorem arrP_len (m T : Nat) (wk : Nat → Nat) : (arrP m T wk).length = T + 1 := by simp [arrP]
theorem arrP_get {m T : Nat} {wk : Nat → Nat} {i t : Nat} (he : i = t) (h : t ≤ T) : (arrP m T wk)[i]? = some [V.ms (.g (wk t)) 1 0 m] := by
  subst he
  simp [arrP, show i < T + 1 by omega]
def addK (wk : Nat → Nat) (T k t : Nat) : Nat := if t = T then k else wk t
theorem arrP_more (m T : Nat) (wk : Nat → Nat) (k : Nat) : arrP m T wk ++ [[V.ms (.g k) 1 0 m]] = arrP m (T + 1) (addK wk (T + 1) k) := by
  unfold arrP
  rw [List.range_succ (n := T + 1), List.map_append, List.map_cons, List.map_nil]
  congr 1
  · exact List.map_congr_left fun t ht => by unfold addK; rw [if_neg (by have := List.mem_range.1 ht; omega)]
  · unfold addK; rw [if_pos rfl]
/-- The document's clocks stand in a heap, from some object on. -/
structure RefAt (b0 : Nat) (h : Heap) (r m T : Nat) (w : Nat → Nat → Int) (q : Nat) (wk : Nat → Nat) : Prop where
  gr : h.get r = some (.cs [.i .i64 m, .ms (.g q) 1 0 (T + 1)])
  gq : h.get q = some (.arr 1 (arrP m T wk))
  gw : ∀ t, t ≤ T → h.get (wk t) = some (.arr 1 (arrI m (w t)))
  rq : r ≠ q
  rw : ∀ t, t ≤ T → wk t ≠ r ∧ wk t ≠ q
  br : b0 ≤ r ∧ r < h.next
  bq : b0 ≤ q ∧ q < h.next
  bw : ∀ t, t ≤ T → b0 ≤ wk t ∧ wk t < h.next
theorem RefAt.keep {b0 : Nat} {h h' : Heap} {r m T : Nat} {w : Nat → Nat → Int} {q : Nat} {wk : Nat → Nat} (a : RefAt b0 h r m T w q wk) {b : Nat → Prop} (hk : Heap.Keeps b h h') (hb : ∀ j, b j → j < b0) : RefAt b0 h' r m T w q wk := by
  have hs : ∀ j, b0 ≤ j → j < h.next → h'.get j = h.get j := fun j h1 h2 => hk.same j h2 fun hx => by have := hb j hx; omega
  have hn := hk.next
  exact ⟨(hs r a.br.1 a.br.2).trans a.gr, (hs q a.bq.1 a.bq.2).trans a.gq, fun t ht => (hs _ (a.bw t ht).1 (a.bw t ht).2).trans (a.gw t ht), a.rq, a.rw,
    ⟨a.br.1, by have := a.br.2; omega⟩, ⟨a.bq.1, by have := a.bq.2; omega⟩, fun t ht => ⟨(a.bw t ht).1, by have := (a.bw t ht).2; omega⟩⟩
theorem arrI_ne {n : Nat} {f : Nat → Int} (h : 1 ≤ n) : (arrI n f).isEmpty = false := by
  rw [List.isEmpty_eq_false_iff]
  intro e
  have := congrArg List.length e
  rw [arrI_len] at this
  simp at this
  omega
def clampM (n : Int) : Nat := (if 1 < (if 8 < n then 8 else n) then (if 8 < n then 8 else n) else 1).toNat
theorem clampM_eq (n : Int) : clampM n = clampN n := by
  unfold clampM clampN
  split <;> split <;> split <;> (try split) <;> omega
section
variable {P : Program} (hG : FnsOk P AF.hns.get)
include hG
theorem rnew_ok {h : Heap} (n : Int) {K : V → Heap → Prop} (hK : ∀ h' r q wk, Heap.Keeps (fun _ => False) h h' → RefAt h.next h' r (clampN n) 0 (fun _ _ => 0) q wk → K (.p (.g r) 0) h') : ACall P 51 [.i .i64 n] h K := by
  obtain ⟨h1, h2, h3⟩ := clampN_in n
  have h4 := clampM_eq n
  have h5 : ((clampN n : Nat) : Int) = (if 1 < (if 8 < n then 8 else n) then (if 8 < n then 8 else n) else 1) := by
    rw [← h4]
    unfold clampM
    split <;> split <;> omega
  refine fn_sp (hG 51 AF.f51 rfl) rfl ?_
  ((conv => whnf); repeat (first | (refine SOpt.of (mn2 (z := if 8 < n then 8 else n) rfl) ?_; conv => whnf) | (refine SOpt.of (mx2 (z := ((clampN n : Nat) : Int)) h5.symm) ?_; conv => whnf) | (refine SChk.mk (by simp [roomOk]; omega) ?_; conv => whnf) | (refine SEx.of (x := arrI (clampN n) fun _ => 0) (by rw [rep_arrI]; exact own_arrI _ _ _) ?_; conv => whnf) | (refine SIf.ff rfl ?_; conv => whnf) | (refine SIf.tt rfl ?_; conv => whnf) | (refine SOpt.of rfl ?_; conv => whnf) | (refine SChk.mk rfl ?_; conv => whnf) | (refine SEx.of rfl ?_; conv => whnf)))
  rw [arrI_len]
  refine hK _ (h.next + 2) (h.next + 1) (fun _ => h.next) ((((Heap.Keeps.refl _ h).push _).push _).push _) ⟨Heap.get_push_self _ _, Heap.gp (by show h.next + 1 ≠ h.next + 2; omega) (Heap.get_push_self _ _), fun t ht => Heap.gp (by show h.next ≠ h.next + 2; omega) (Heap.gp (by show h.next ≠ h.next + 1; omega) (Heap.get_push_self _ _)), by omega, fun t _ => by omega,
    ⟨by omega, by show h.next + 2 < h.next + 3; omega⟩, ⟨by omega, by show h.next + 1 < h.next + 3; omega⟩, fun t _ => ⟨by omega, by show h.next < h.next + 3; omega⟩⟩
theorem rnow_ok {b0 : Nat} {h : Heap} {r m T : Nat} {w : Nat → Nat → Int} {q : Nat} {wk : Nat → Nat} (a : RefAt b0 h r m T w q wk) (hT : T ≤ 30) (i : Int) {K : V → Heap → Prop}
    (hK : ∀ x, (0 ≤ i → i < m → x = w T i.toNat) → (i < 0 ∨ m ≤ i → x = 0) → K (.i .i64 x) h) : ACall P 54 [.p (.g r) 0, .i .i64 i] h K := by
  have gw := a.gw T (Nat.le_refl _)
  refine fn_sp (hG 54 AF.f54 rfl) rfl ?_
  ((conv => whnf); repeat (first | (refine SIf.ff rfl ?_; conv => whnf) | (refine SIf.tt rfl ?_; conv => whnf) | (refine SOpt.of rfl ?_; conv => whnf) | (refine SChk.mk rfl ?_; conv => whnf) | (refine SEx.of rfl ?_; conv => whnf)))
  refine SIf.ds (fun h0 => ?_) (fun h0 => ?_)
  · ((conv => whnf); repeat (first | (refine SIf.ff rfl ?_; conv => whnf) | (refine SIf.tt rfl ?_; conv => whnf) | (refine SOpt.of rfl ?_; conv => whnf) | (refine SChk.mk rfl ?_; conv => whnf) | (refine SEx.of rfl ?_; conv => whnf)))
    exact hK 0 (by omega) (fun _ => rfl)
  · ((conv => whnf); repeat (first | (refine SIf.ff rfl ?_; conv => whnf) | (refine SIf.tt rfl ?_; conv => whnf) | (refine SOpt.of rfl ?_; conv => whnf) | (refine SChk.mk rfl ?_; conv => whnf) | (refine SEx.of (a.gr) ?_; conv => whnf) | (refine SEx.of rfl ?_; conv => whnf)))
    refine SIf.ds (fun h1 => ?_) (fun h1 => ?_)
    · ((conv => whnf); repeat (first | (refine SIf.ff rfl ?_; conv => whnf) | (refine SIf.tt rfl ?_; conv => whnf) | (refine SOpt.of rfl ?_; conv => whnf) | (refine SChk.mk rfl ?_; conv => whnf) | (refine SEx.of rfl ?_; conv => whnf)))
      exact hK 0 (by omega) (fun _ => rfl)
    · ((conv => whnf); repeat (first | (refine SWrap.w64 (by omega) (by omega) ?_; conv => whnf) | (refine SChk.ix (by omega) (by omega) ?_; conv => whnf) | (refine SIf.ff rfl ?_; conv => whnf) | (refine SIf.tt rfl ?_; conv => whnf) | (refine SOpt.of rfl ?_; conv => whnf) | (refine SChk.mk rfl ?_; conv => whnf) | (refine SEx.of (a.gr) ?_; conv => whnf) | (refine SEx.of (a.gq) ?_; conv => whnf) | (refine SEx.of (gw) ?_; conv => whnf) | (refine SEx.of (arrP_get (t := T) (by omega) (by omega)) ?_; conv => whnf) | (refine SEx.of (arrI_get (j := i.toNat) (by omega) (by omega)) ?_; conv => whnf) | (refine SEx.of rfl ?_; conv => whnf)))
      exact hK _ (fun _ _ => rfl) (by omega)
/-- A tick of the document's clocks. -/
theorem rtick_ok {b0 : Nat} {h : Heap} {r m T n : Nat} {w : Nat → Nat → Int} {a : Nat → Int} {q : Nat} {wk : Nat → Nat} (A : RefAt b0 h r m T w q wk) (hT : T ≤ 30) (hm1 : 1 ≤ m) (hm : m ≤ 8)
    (hb : ∀ i, i < m → 0 ≤ w T i ∧ w T i ≤ 1125899906842624) {K : V → Heap → Prop}
    (hf : ¬ tickMay n m (w T) a → ∀ h', Heap.Keeps (fun _ => False) h h' → K (.b false) h')
    (ht : tickMay n m (w T) a → ∀ h' q' wk', Heap.Keeps (fun j => b0 ≤ j) h h' → RefAt b0 h' r m (T + 1) (addW w (T + 1) (tickNow (min n m) (w T) a)) q' wk' → K (.b true) h') :
    ACall P 52 [.p (.g r) 0, .sl none 1 (arrI n a)] h K := by
  have gw := A.gw T (Nat.le_refl _)
  have hl := arrI_len n a
  have hlm := arrI_len m (w T)
  have hlp := arrP_len m T wk
  have hne := A.rw T (Nat.le_refl _)
  have hbr := A.br
  have hbq := A.bq
  have hbw := A.bw T (Nat.le_refl _)
  refine fn_sp (hG 52 AF.f52 rfl) rfl ?_
  ((conv => whnf); repeat (first | (refine SWrap.w64 (by omega) (by omega) ?_; conv => whnf) | (refine SChk.ix (by omega) (by omega) ?_; conv => whnf) | (refine SChk.d (by omega) ?_; conv => whnf) | (refine SEx.of (x := arrI m (w T)) (by rw [List.drop_zero, List.take_of_length_le (by omega)]) ?_; conv => whnf) | (refine SIf.ff (arrI_ne hm1) ?_; conv => whnf) | (refine SChk.mk (by simp [roomOk]; omega) ?_; conv => whnf) | (refine SEx.of (own_arrI _ _ _) ?_; conv => whnf) | (refine SIf.ff rfl ?_; conv => whnf) | (refine SIf.tt rfl ?_; conv => whnf) | (refine SOpt.of rfl ?_; conv => whnf) | (refine SChk.mk rfl ?_; conv => whnf) | (refine SEx.of (A.gr) ?_; conv => whnf) | (refine SEx.of (A.gq) ?_; conv => whnf) | (refine SEx.of (gw) ?_; conv => whnf) | (refine SEx.of (arrP_get (t := T) (by omega) (by omega)) ?_; conv => whnf) | (refine SEx.of rfl ?_; conv => whnf)))
  rw [hlm]
  obtain ⟨b, hbd⟩ : ∃ b, b = h.next := ⟨_, rfl⟩
  have hT8 : ∀ j, j < m → tickNow 0 (w T) a j = w T j := fun j _ => by simp [tickNow]
  refine SLoop.by (fun z fr st => ∃ (i : Nat) (h' : Heap), i ≤ m ∧ i ≤ n ∧ z = m - i ∧ Heap.Keeps (fun _ => False) h h' ∧ h'.next = b + 1 ∧ h'.get b = some (.arr 1 (arrI m (tickNow i (w T) a))) ∧ RefAt b0 h' r m T w q wk ∧
      (∀ j, j < i → 0 ≤ a j ∧ a j ≤ 1000000 ∧ w T j + a j ≤ 1125899906842624) ∧ Fr.le [(6, .i .i64 i), (5, .ms (.g b) 1 0 m), (1, .sl none 1 (arrI n a)), (0, .p (.g r) 0)] fr ∧ st = gst h')
    m ⟨0, h.push (.arr 1 (arrI m (w T))), by omega, by omega, rfl, (Heap.Keeps.refl _ h).push _, by rw [hbd]; rfl, by rw [hbd, Heap.get_push_self, arrI_congr hT8], A.keep (b := fun _ => False) ((Heap.Keeps.refl _ h).push _) (fun _ h => h.elim),
      fun j hj => absurd hj (Nat.not_lt_zero _), by rw [hbd]; exact (by repeat (first | exact Fr.le_nil | refine Fr.le_cons rfl ?_)), rfl⟩ ?_
  rintro z fr st ⟨i, h', him, hin, rfl, hkp, hnx, hgb, A', hok, hle, rfl⟩
  refine ⟨_, hle, fun R hR => ?_⟩
  clear hle
  have gw' := A'.gw T (Nat.le_refl _)
  ((conv => whnf); repeat (first | (refine SIf.ff rfl ?_; conv => whnf) | (refine SIf.tt rfl ?_; conv => whnf) | (refine SOpt.of rfl ?_; conv => whnf) | (refine SChk.mk rfl ?_; conv => whnf) | (refine SEx.of (A'.gr) ?_; conv => whnf) | (refine SEx.of rfl ?_; conv => whnf)))
  refine SIf.ds (fun hlt => ?_) (fun hge => ?_)
  focus
    ((conv => whnf); repeat (first | (refine SIf.ff rfl ?_; conv => whnf) | (refine SIf.tt rfl ?_; conv => whnf) | (refine SOpt.of rfl ?_; conv => whnf) | (refine SChk.mk rfl ?_; conv => whnf) | (refine SEx.of rfl ?_; conv => whnf)))
    refine SIf.ds (fun hlt2 => ?_) (fun hge2 => ?_)
    focus
      have hni : tickNow i (w T) a i = w T i := by simp [tickNow]
      have hbi := hb i (by omega)
      ((conv => whnf); repeat (first | (refine SChk.ix (by omega) (by omega) ?_; conv => whnf) | (refine SIf.ff rfl ?_; conv => whnf) | (refine SIf.tt rfl ?_; conv => whnf) | (refine SOpt.of rfl ?_; conv => whnf) | (refine SChk.mk rfl ?_; conv => whnf) | (refine SEx.of (arrI_get (j := i) (by omega) (by omega)) ?_; conv => whnf) | (refine SEx.of rfl ?_; conv => whnf)))
      refine SIf.ds (fun h0 => ?_) (fun h0 => ?_)
      · ((conv => whnf); repeat (first | (refine SIf.ff rfl ?_; conv => whnf) | (refine SIf.tt rfl ?_; conv => whnf) | (refine SOpt.of rfl ?_; conv => whnf) | (refine SChk.mk rfl ?_; conv => whnf) | (refine SEx.of rfl ?_; conv => whnf)))
        exact hf (fun hmay => by have := hmay i (by omega); omega) h' hkp
      · ((conv => whnf); repeat (first | (refine SChk.ix (by omega) (by omega) ?_; conv => whnf) | (refine SIf.ff rfl ?_; conv => whnf) | (refine SIf.tt rfl ?_; conv => whnf) | (refine SOpt.of rfl ?_; conv => whnf) | (refine SChk.mk rfl ?_; conv => whnf) | (refine SEx.of (arrI_get (j := i) (by omega) (by omega)) ?_; conv => whnf) | (refine SEx.of rfl ?_; conv => whnf)))
        refine SIf.ds (fun h1 => ?_) (fun h1 => ?_)
        · ((conv => whnf); repeat (first | (refine SIf.ff rfl ?_; conv => whnf) | (refine SIf.tt rfl ?_; conv => whnf) | (refine SOpt.of rfl ?_; conv => whnf) | (refine SChk.mk rfl ?_; conv => whnf) | (refine SEx.of rfl ?_; conv => whnf)))
          exact hf (fun hmay => by have := hmay i (by omega); omega) h' hkp
        · ((conv => whnf); repeat (first | (refine SChk.ix (by omega) (by omega) ?_; conv => whnf) | (refine SWrap.w64 (by omega) (by omega) ?_; conv => whnf) | (refine SIf.ff rfl ?_; conv => whnf) | (refine SIf.tt rfl ?_; conv => whnf) | (refine SOpt.of rfl ?_; conv => whnf) | (refine SChk.mk rfl ?_; conv => whnf) | (refine SEx.of (hgb) ?_; conv => whnf) | (refine SEx.of (arrI_get (f := tickNow i (w T) a) (j := i) (by omega) (by omega)) ?_; conv => whnf) | (refine SEx.of (arrI_get (f := a) (j := i) (by omega) (by omega)) ?_; conv => whnf) | (refine SEx.of rfl ?_; conv => whnf)))
          refine SIf.ds (fun h2 => ?_) (fun h2 => ?_)
          · ((conv => whnf); repeat (first | (refine SIf.ff rfl ?_; conv => whnf) | (refine SIf.tt rfl ?_; conv => whnf) | (refine SOpt.of rfl ?_; conv => whnf) | (refine SChk.mk rfl ?_; conv => whnf) | (refine SEx.of rfl ?_; conv => whnf)))
            exact hf (fun hmay => by have := hmay i (by omega); omega) h' hkp
          · have hset : arrI m (fun z => if z = i then tickNow i (w T) a i + a i else tickNow i (w T) a z) = arrI m (tickNow (i + 1) (w T) a) := arrI_congr fun z hz => by
              unfold tickNow
              by_cases hqi : z = i
              · subst hqi; simp
              · rw [if_neg hqi]
                by_cases hq2 : z < i
                · rw [if_pos hq2, if_pos (by omega)]
                · rw [if_neg hq2, if_neg (by omega)]
            ((conv => whnf); repeat (first | (refine SChk.ix (by omega) (by omega) ?_; conv => whnf) | (refine SWrap.w64 (by omega) (by omega) ?_; conv => whnf) | (refine SEx.of (congrArg some ((arrI_set (j := i) (by omega) _).trans hset)) ?_; conv => whnf) | (refine SIf.ff rfl ?_; conv => whnf) | (refine SIf.tt rfl ?_; conv => whnf) | (refine SOpt.of rfl ?_; conv => whnf) | (refine SChk.mk rfl ?_; conv => whnf) | (refine SEx.of (hgb) ?_; conv => whnf) | (refine SEx.of (arrI_get (f := tickNow i (w T) a) (j := i) (by omega) (by omega)) ?_; conv => whnf) | (refine SEx.of (arrI_get (f := a) (j := i) (by omega) (by omega)) ?_; conv => whnf) | (refine SEx.of rfl ?_; conv => whnf)))
            refine hR (m - (i + 1)) _ _ (by omega) ⟨i + 1, h'.set b _, by omega, by omega, rfl, hkp.set (.inr (by omega)) _, hnx, Heap.get_set_self hgb, A.keep (b := fun _ => False) (hkp.set (.inr (by omega)) _) (fun _ h => h.elim), fun j hj => ?_, (by repeat (first | exact Fr.le_nil | refine Fr.le_cons rfl ?_)), rfl⟩
            by_cases hji : j < i
            · exact hok j hji
            · obtain rfl : j = i := by omega
              omega
  all_goals
    have hmin : i = min n m := by omega
    have hmay : tickMay n m (w T) a := fun j hj => hok j (by omega)
    clear hR hf
    rw [hmin] at hgb
    have hlp' := arrP_len m (T + 1) (addK wk (T + 1) b)
    have hmore : ((arrP m T wk).take (0 + (T + 1))).drop 0 ++ [[V.ms (.g b) 1 0 m]] = arrP m (T + 1) (addK wk (T + 1) b) := by
      rw [List.drop_zero, List.take_of_length_le (by omega), arrP_more]
    have hrne : r ≠ q := A.rq
    have gq1 : (h'.push (.arr 1 [[V.ms (.g b) 1 0 m]])).get q = some (.arr 1 (arrP m T wk)) := Heap.gp (by omega) A'.gq
    have gr1 : (((h'.push (.arr 1 [[V.ms (.g b) 1 0 m]])).remove q).push (.arr 1 (arrP m (T + 1) (addK wk (T + 1) b)))).get r = some (.cs [.i .i64 m, .ms (.g q) 1 0 (T + 1)]) :=
      Heap.gp (by show r ≠ h'.next + 1; omega) (Heap.gr hrne (Heap.gp (by omega) A'.gr))
    have hk1 : Heap.Keeps (fun j => b0 ≤ j) h ((((h'.push (.arr 1 [[V.ms (.g b) 1 0 m]])).remove q).push (.arr 1 (arrP m (T + 1) (addK wk (T + 1) b)))).set r (.cs [.i .i64 m, .ms (.g (h'.next + 1)) 1 0 (T + 1 + 1)])) :=
      (((((hkp.mono fun _ _ h => h.elim).push _).remove (.inl hbq.1)).push _).set (.inl hbr.1) _)
    have gb1 : ((((h'.push (.arr 1 [[V.ms (.g b) 1 0 m]])).remove q).push (.arr 1 (arrP m (T + 1) (addK wk (T + 1) b)))).set r (.cs [.i .i64 m, .ms (.g (h'.next + 1)) 1 0 (T + 1 + 1)])).get b = some (.arr 1 (arrI m (tickNow (min n m) (w T) a))) := Heap.gs (by omega) (Heap.gp (by show b ≠ h'.next + 1; omega) (Heap.gr (by omega) (Heap.gp (by omega) hgb)))
    have gw1 : ∀ t, t ≤ T → ((((h'.push (.arr 1 [[V.ms (.g b) 1 0 m]])).remove q).push (.arr 1 (arrP m (T + 1) (addK wk (T + 1) b)))).set r (.cs [.i .i64 m, .ms (.g (h'.next + 1)) 1 0 (T + 1 + 1)])).get (wk t) = some (.arr 1 (arrI m (w t))) := fun t htt => by
      have hw1 := A.rw t htt
      have hw2 := A.bw t htt
      exact Heap.gs (by omega) (Heap.gp (by show wk t ≠ h'.next + 1; omega) (Heap.gr (by omega) (Heap.gp (by omega) (A'.gw t htt))))
    ((conv => whnf); repeat (first | (refine SChk.mk (by simp [roomOk]; omega) ?_; conv => whnf) | (refine SChk.d (by omega) ?_; conv => whnf) | (refine SIf.df (by simp only [List.length_cons, List.length_nil]; omega) ?_; conv => whnf) | (refine SEx.of (congrArg some hmore) ?_; conv => whnf) | (refine SIf.ff rfl ?_; conv => whnf) | (refine SIf.tt rfl ?_; conv => whnf) | (refine SOpt.of rfl ?_; conv => whnf) | (refine SChk.mk rfl ?_; conv => whnf) | (refine SEx.of (A'.gr) ?_; conv => whnf) | (refine SEx.of (A'.gq) ?_; conv => whnf) | (refine SEx.of (Heap.get_push_self _ _) ?_; conv => whnf) | (refine SEx.of (gq1) ?_; conv => whnf) | (refine SEx.of (gr1) ?_; conv => whnf) | (refine SEx.of rfl ?_; conv => whnf)))
    refine ht hmay _ (h'.next + 1) (addK wk (T + 1) b) hk1 ⟨Heap.get_set_self gr1, Heap.gs (by omega) (Heap.get_push_self _ _), fun t htt => ?_, by omega, fun t htt => ?_, ⟨hbr.1, by show r < h'.next + 1 + 1; omega⟩, ⟨by omega, by show h'.next + 1 < h'.next + 1 + 1; omega⟩, fun t htt => ?_⟩
    · unfold addK addW
      by_cases he : t = T + 1
      · rw [if_pos he, if_pos he]
        exact gb1
      · rw [if_neg he, if_neg he]
        exact gw1 t (by omega)
    · unfold addK
      split
      · omega
      · have hw1 := A.rw t (by omega)
        have hw2 := A.bw t (by omega)
        omega
    · show b0 ≤ addK wk (T + 1) b t ∧ addK wk (T + 1) b t < h'.next + 1 + 1
      unfold addK
      split
      · omega
      · have hw2 := A.bw t (by omega)
        omega
/-- How far the document's clocks drifted. -/
theorem rdrift_ok {b0 : Nat} {h : Heap} {r m T : Nat} {w : Nat → Nat → Int} {q : Nat} {wk : Nat → Nat} (A : RefAt b0 h r m T w q wk) (hT : T ≤ 30) (hm : m ≤ 8) (hw : ∀ t x, t ≤ T → x < m → 0 ≤ w t x ∧ w t x ≤ 1125899906842624) {K : V → Heap → Prop}
    (hK : ∀ d, Sofar m T w (spanS m (T + 1) 0 0 0) d → K (.i .i64 d) h) : ACall P 53 [.p (.g r) 0] h K := by
  have gr := A.gr
  have gq := A.gq
  have hlp := arrP_len m T wk
  refine fn_sp (hG 53 AF.f53 rfl) rfl ?_
  ((conv => whnf); repeat (first | (refine SIf.ff rfl ?_; conv => whnf) | (refine SIf.tt rfl ?_; conv => whnf) | (refine SOpt.of rfl ?_; conv => whnf) | (refine SChk.mk rfl ?_; conv => whnf) | (refine SEx.of (gr) ?_; conv => whnf) | (refine SEx.of rfl ?_; conv => whnf)))
  refine SLoop.by (fun q fr st => ∃ (i : Nat) (d : Int), i ≤ T + 1 ∧ q = T + 1 - i ∧ Sofar m T w (spanS m i 0 0 0) d ∧
      Fr.le [(13, .i .i64 i), (12, .i .i64 (T + 1 : Nat)), (3, .i .i64 d), (0, .p (.g r) 0)] fr ∧ st = gst h)
    (T + 1) ⟨0, 0, by omega, rfl, ⟨Int.le_refl _, fun i k x y hs => by unfold spanS at hs; omega, .inl rfl⟩, (by repeat (first | exact Fr.le_nil | refine Fr.le_cons rfl ?_)), rfl⟩ ?_
  rintro z fr st ⟨i, d, hi, rfl, hd, hle, rfl⟩
  refine ⟨_, hle, fun R hR => ?_⟩
  clear hle
  ((conv => whnf); repeat (first | (refine SIf.ff rfl ?_; conv => whnf) | (refine SIf.tt rfl ?_; conv => whnf) | (refine SOpt.of rfl ?_; conv => whnf) | (refine SChk.mk rfl ?_; conv => whnf) | (refine SEx.of rfl ?_; conv => whnf)))
  refine SIf.ds (fun hilt => ?_) (fun hige => ?_)
  focus
    have gwi := A.gw i (by omega)
    ((conv => whnf); repeat (first | (refine SIf.ff rfl ?_; conv => whnf) | (refine SIf.tt rfl ?_; conv => whnf) | (refine SOpt.of rfl ?_; conv => whnf) | (refine SChk.mk rfl ?_; conv => whnf) | (refine SEx.of rfl ?_; conv => whnf)))
    refine SLoop.by (fun q fr st => ∃ (k' : Nat) (d : Int), k' ≤ i ∧ q = i - k' ∧ Sofar m T w (spanS m i k' 0 0) d ∧
        Fr.le [(5, .i .i64 k'), (4, .i .i64 i), (13, .i .i64 i), (12, .i .i64 (T + 1 : Nat)), (3, .i .i64 d), (0, .p (.g r) 0)] fr ∧ st = gst h)
      i ⟨0, d, by omega, rfl, hd, (by repeat (first | exact Fr.le_nil | refine Fr.le_cons rfl ?_)), rfl⟩ ?_
    clear hd
    rintro z fr st ⟨k', d, hk', rfl, hd, hle, rfl⟩
    refine ⟨_, hle, fun R2 hR2 => ?_⟩
    clear hle
    ((conv => whnf); repeat (first | (refine SIf.ff rfl ?_; conv => whnf) | (refine SIf.tt rfl ?_; conv => whnf) | (refine SOpt.of rfl ?_; conv => whnf) | (refine SChk.mk rfl ?_; conv => whnf) | (refine SEx.of rfl ?_; conv => whnf)))
    refine SIf.ds (fun hklt => ?_) (fun hkge => ?_)
    focus
      have gwk := A.gw k' (by omega)
      ((conv => whnf); repeat (first | (refine SIf.ff rfl ?_; conv => whnf) | (refine SIf.tt rfl ?_; conv => whnf) | (refine SOpt.of rfl ?_; conv => whnf) | (refine SChk.mk rfl ?_; conv => whnf) | (refine SEx.of rfl ?_; conv => whnf)))
      refine SLoop.by (fun q fr st => ∃ (x : Nat) (d : Int), x ≤ m ∧ q = m - x ∧ Sofar m T w (spanS m i k' x 0) d ∧
          Fr.le [(6, .i .i64 x), (5, .i .i64 k'), (4, .i .i64 i), (13, .i .i64 i), (12, .i .i64 (T + 1 : Nat)), (3, .i .i64 d), (0, .p (.g r) 0)] fr ∧ st = gst h)
        m ⟨0, d, by omega, rfl, hd, (by repeat (first | exact Fr.le_nil | refine Fr.le_cons rfl ?_)), rfl⟩ ?_
      clear hd
      rintro z fr st ⟨x, d, hx, rfl, hd, hle, rfl⟩
      refine ⟨_, hle, fun R3 hR3 => ?_⟩
      clear hle
      ((conv => whnf); repeat (first | (refine SIf.ff rfl ?_; conv => whnf) | (refine SIf.tt rfl ?_; conv => whnf) | (refine SOpt.of rfl ?_; conv => whnf) | (refine SChk.mk rfl ?_; conv => whnf) | (refine SEx.of (gr) ?_; conv => whnf) | (refine SEx.of rfl ?_; conv => whnf)))
      refine SIf.ds (fun hxlt => ?_) (fun hxge => ?_)
      focus
        ((conv => whnf); repeat (first | (refine SIf.ff rfl ?_; conv => whnf) | (refine SIf.tt rfl ?_; conv => whnf) | (refine SOpt.of rfl ?_; conv => whnf) | (refine SChk.mk rfl ?_; conv => whnf) | (refine SEx.of rfl ?_; conv => whnf)))
        refine SLoop.by (fun q fr st => ∃ (y : Nat) (d : Int), y ≤ m ∧ q = m - y ∧ Sofar m T w (spanS m i k' x y) d ∧
            Fr.le [(7, .i .i64 y), (6, .i .i64 x), (5, .i .i64 k'), (4, .i .i64 i), (13, .i .i64 i), (12, .i .i64 (T + 1 : Nat)), (3, .i .i64 d), (0, .p (.g r) 0)] fr ∧ st = gst h)
          m ⟨0, d, by omega, rfl, hd, (by repeat (first | exact Fr.le_nil | refine Fr.le_cons rfl ?_)), rfl⟩ ?_
        clear hd
        rintro z fr st ⟨y, d, hy, rfl, hd, hle, rfl⟩
        refine ⟨_, hle, fun R4 hR4 => ?_⟩
        clear hle
        ((conv => whnf); repeat (first | (refine SIf.ff rfl ?_; conv => whnf) | (refine SIf.tt rfl ?_; conv => whnf) | (refine SOpt.of rfl ?_; conv => whnf) | (refine SChk.mk rfl ?_; conv => whnf) | (refine SEx.of (gr) ?_; conv => whnf) | (refine SEx.of rfl ?_; conv => whnf)))
        refine SIf.ds (fun hylt => ?_) (fun hyge => ?_)
        · have w1 := hw i x (by omega) (by omega)
          have w2 := hw k' x (by omega) (by omega)
          have w3 := hw i y (by omega) (by omega)
          have w4 := hw k' y (by omega) (by omega)
          ((conv => whnf); repeat (first | (refine SChk.ix (by omega) (by omega) ?_; conv => whnf) | (refine SWrap.w64 (by omega) (by omega) ?_; conv => whnf) | (refine SOpt.of (mx2 (z := maxI d (spanV w i k' x y)) rfl) ?_; conv => whnf) | (refine SIf.ff rfl ?_; conv => whnf) | (refine SIf.tt rfl ?_; conv => whnf) | (refine SOpt.of rfl ?_; conv => whnf) | (refine SChk.mk rfl ?_; conv => whnf) | (refine SEx.of (gr) ?_; conv => whnf) | (refine SEx.of (gq) ?_; conv => whnf) | (refine SEx.of (gwi) ?_; conv => whnf) | (refine SEx.of (gwk) ?_; conv => whnf) | (refine SEx.of (arrP_get (t := i) (by omega) (by omega)) ?_; conv => whnf) | (refine SEx.of (arrP_get (t := k') (by omega) (by omega)) ?_; conv => whnf) | (refine SEx.of (arrI_get (j := x) (by omega) (by omega)) ?_; conv => whnf) | (refine SEx.of (arrI_get (j := y) (by omega) (by omega)) ?_; conv => whnf) | (refine SEx.of rfl ?_; conv => whnf)))
          exact hR4 (m - (y + 1)) _ _ (by omega) ⟨y + 1, _, by omega, rfl, hd.more (by omega) (by omega) (by omega) (by omega), (by repeat (first | exact Fr.le_nil | refine Fr.le_cons rfl ?_)), rfl⟩
        · ((conv => whnf); repeat (first | (refine SWrap.w64 (by omega) (by omega) ?_; conv => whnf) | (refine SIf.ff rfl ?_; conv => whnf) | (refine SIf.tt rfl ?_; conv => whnf) | (refine SOpt.of rfl ?_; conv => whnf) | (refine SChk.mk rfl ?_; conv => whnf) | (refine SEx.of rfl ?_; conv => whnf)))
          exact hR3 (m - (x + 1)) _ _ (by omega) ⟨x + 1, d, by omega, rfl, hd.mono fun i' k' x' y' hs => by unfold spanS at hs ⊢; omega, (by repeat (first | exact Fr.le_nil | refine Fr.le_cons rfl ?_)), rfl⟩
      · ((conv => whnf); repeat (first | (refine SWrap.w64 (by omega) (by omega) ?_; conv => whnf) | (refine SIf.ff rfl ?_; conv => whnf) | (refine SIf.tt rfl ?_; conv => whnf) | (refine SOpt.of rfl ?_; conv => whnf) | (refine SChk.mk rfl ?_; conv => whnf) | (refine SEx.of rfl ?_; conv => whnf)))
        exact hR2 (i - (k' + 1)) _ _ (by omega) ⟨k' + 1, d, by omega, rfl, hd.mono fun i' k' x' y' hs => by unfold spanS at hs ⊢; omega, (by repeat (first | exact Fr.le_nil | refine Fr.le_cons rfl ?_)), rfl⟩
    · ((conv => whnf); repeat (first | (refine SWrap.w64 (by omega) (by omega) ?_; conv => whnf) | (refine SIf.ff rfl ?_; conv => whnf) | (refine SIf.tt rfl ?_; conv => whnf) | (refine SOpt.of rfl ?_; conv => whnf) | (refine SChk.mk rfl ?_; conv => whnf) | (refine SEx.of rfl ?_; conv => whnf)))
      exact hR (T + 1 - (i + 1)) _ _ (by omega) ⟨i + 1, d, by omega, rfl, hd.mono fun i' k' x' y' hs => by unfold spanS at hs ⊢; omega, (by repeat (first | exact Fr.le_nil | refine Fr.le_cons rfl ?_)), rfl⟩
  · obtain rfl : i = T + 1 := by omega
    ((conv => whnf); repeat (first | (refine SIf.ff rfl ?_; conv => whnf) | (refine SIf.tt rfl ?_; conv => whnf) | (refine SOpt.of rfl ?_; conv => whnf) | (refine SChk.mk rfl ?_; conv => whnf) | (refine SEx.of rfl ?_; conv => whnf)))
    exact hK d hd
end
end Go.Eng
