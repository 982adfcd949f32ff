/-
What the document's cache does.
-/
import Derived.Test.YthhlbhmneabhiaaGreatCa2
set_option linter.unusedVariables false
set_option linter.unusedSimpArgs false
namespace Go.Eng
open Go
def strC (b : List Int) : List UInt8 := b.map fun n => UInt8.ofNat n.toNat
theorem bytes_mapC : ∀ b : List Int, bytesOf (b.map byR) = some (strC b)
  | [] => rfl
  | x :: r => by
    have h := bytes_mapC r
    show bytesOf ([V.i .u8 x] :: r.map byR) = _
    simp only [bytesOf, h]
    rfl
theorem gtr_eq {a b : Str} (h : a ≠ b) : (!(Op.bytesLess a b || a == b)) = Op.bytesLess b a := by
  have h1 : (a == b) = false := by simpa using h
  rw [h1, Bool.or_false]
  cases h2 : Op.bytesLess b a with
  | true => rw [less_asymm h2]; rfl
  | false => rw [less_tri h2 (Ne.symm h)]; rfl
/-- A row of entries in the making. -/
def OutV (lo : Heap) (ov : V) (O : List EnD) : Prop := (O = [] ∧ ov = .nils) ∨ ∃ t, ov = .sl (some (.l t)) 3 (O.map enR) ∧ t < lo.next ∧ lo.get t = some .spare ∧ O ≠ []
def RefAt (h : Heap) (b : Nat) (rev : Int) (L : List EnD) : Prop := b < h.next ∧ ∃ lv, EnsV lv L ∧ h.get b = some (.cs [.i .i64 rev, lv])
theorem RefAt.keep {h h' : Heap} {b : Nat} {rev : Int} {L : List EnD} (hc : RefAt h b rev L) {but : Nat → Prop} (hk : Heap.Keeps but h h') (hb : ¬ but b) : RefAt h' b rev L := by
  obtain ⟨h1, lv, h2, h3⟩ := hc
  exact ⟨Nat.lt_of_lt_of_le h1 hk.1, lv, h2, by rw [hk.2 b h1 hb]; exact h3⟩
section
variable {P : Program} (hG : FnsOk P AF.fns.get)
include hG
theorem bytesS_at {h : Heap} (b : List Int) {K : V → Heap → Prop} (hK : K (.b true) h) : ACall P 73 [.sl none 1 (b.map byR), .sl none 1 (b.map byR)] h K := by
  have hbb := bytes_mapC b
  have ht : (strC b == strC b) = true := by simp
  refine fn_sp (hG _ AF.f73 rfl) rfl ?_
  ((conv => whnf); repeat ((first | refine SEx.of (hbb) ?_ | refine SEx.of (hbb) ?_ | refine yf rfl ?_ | refine yt rfl ?_ | refine yo rfl ?_ | refine yc rfl ?_ | refine ys rfl ?_ | refine ye rfl ?_ | refine yn rfl ?_ | refine zw ?_ | refine zdt ?_ | refine zdf ?_ | refine znt ?_ | refine znf ?_ | refine zcd ?_ | refine zci ?_ | refine zc3 ?_) <;> (conv => whnf)))
  rw [ht]
  exact hK
theorem eqEn_at {h : Heap} (e : EnD) {K : V → Heap → Prop} (hK : K (.b true) h) : ACall P 32 [.agg (enR e), .agg (enR e)] h K := by
  have hb := fun K => bytesS_at (K := K) hG (h := h) e.val
  refine fn_sp (hG _ AF.f32 rfl) rfl ?_
  ((conv => whnf); repeat ((first | refine SCall.app (hb _) ?_ | refine SIf.tt (by simp; done) ?_ | refine yf rfl ?_ | refine yt rfl ?_ | refine yo rfl ?_ | refine yc rfl ?_ | refine ys rfl ?_ | refine ye rfl ?_ | refine yn rfl ?_ | refine zw ?_ | refine zdt ?_ | refine zdf ?_ | refine znt ?_ | refine znf ?_ | refine zcd ?_ | refine zci ?_ | refine zc3 ?_) <;> (conv => whnf)))
  exact hK
theorem eqEn_zero {h : Heap} {K : V → Heap → Prop} (hK : K (.b true) h) : ACall P 32 [.agg zeroE, .agg zeroE] h K := by
  refine fn_sp (hG _ AF.f32 rfl) rfl ?_
  ((conv => whnf); repeat ((first | refine SCall.app (fn_sp (hG _ AF.f73 rfl) rfl) ?_ | refine yf rfl ?_ | refine yt rfl ?_ | refine yo rfl ?_ | refine yc rfl ?_ | refine ys rfl ?_ | refine ye rfl ?_ | refine yn rfl ?_ | refine zw ?_ | refine zdt ?_ | refine zdf ?_ | refine znt ?_ | refine znf ?_ | refine zcd ?_ | refine zci ?_ | refine zc3 ?_) <;> (conv => whnf)))
  exact hK
theorem eqEns_at {h : Heap} {lv lw : V} {L : List EnD} (h1 : EnsV lv L) (h2 : EnsV lw L) (hn : L.length ≤ 100000) {K : V → Heap → Prop} (hK : K (.b true) h) : ACall P 15 [lv, lw] h K := by
  by_cases hL : L = []
  · subst hL
    refine fn_sv (hG _ AF.f15 rfl) rfl ?_
    rcases h1 with ⟨rfl, _⟩ | rfl <;> rcases h2 with ⟨rfl, _⟩ | rfl
    all_goals
      ((conv => whnf); repeat ((first | refine SLoopV.un rfl ?_ | refine yf rfl ?_ | refine yt rfl ?_ | refine yo rfl ?_ | refine yc rfl ?_ | refine ys rfl ?_ | refine ye rfl ?_ | refine yn rfl ?_ | refine zw ?_ | refine zdt ?_ | refine zdf ?_ | refine znt ?_ | refine znf ?_ | refine zcd ?_ | refine zci ?_ | refine zc3 ?_) <;> (conv => whnf)))
      exact hK
  · have e1 : lv = .sl none 3 (L.map enR) := by rcases h1 with ⟨_, h⟩ | h; exact absurd h hL; exact h
    have e2 : lw = .sl none 3 (L.map enR) := by rcases h2 with ⟨_, h⟩ | h; exact absurd h hL; exact h
    subst e1 e2
    have hlm : (L.map enR).length = L.length := List.length_map _
    refine fn_sv (hG _ AF.f15 rfl) rfl ?_
    ((conv => whnf); repeat ((first | refine yf rfl ?_ | refine yt rfl ?_ | refine yo rfl ?_ | refine yc rfl ?_ | refine ys rfl ?_ | refine ye rfl ?_ | refine yn rfl ?_ | refine zw ?_ | refine zdt ?_ | refine zdf ?_ | refine znt ?_ | refine znf ?_ | refine zcd ?_ | refine zci ?_ | refine zc3 ?_) <;> (conv => whnf)))
    refine SLoopV.by (fun q fr st => ∃ (i : Nat) (lo : Heap), i ≤ L.length ∧ q = L.length - i ∧ Fr.le [(13, .i .i64 i), (12, .i .i64 (L.map enR).length), (1, .sl none 3 (L.map enR)), (0, .sl none 3 (L.map enR))] fr ∧ st = ⟨h, lo⟩)
      L.length ⟨0, _, Nat.zero_le _, rfl, (by repeat (first | exact Fr.le_nil | refine Fr.le_cons rfl ?_)), rfl⟩ ?_
    rintro q fr st ⟨i, lo, hi, rfl, hle0, rfl⟩
    refine ⟨_, hle0, fun R hR => ?_⟩
    by_cases hin : i < L.length
    · have he := List.getElem?_eq_getElem hin
      generalize L[i] = e at he
      have hb := fun K => eqEn_at (K := K) hG (h := h) e
      ((conv => whnf); repeat ((first | refine SIf.dt (by omega) ?_ | refine SChk.ix (by omega) (by omega) ?_ | refine SCall.app (hb _) ?_ | refine SWrap.w64 (by omega) (by omega) ?_ | refine SEx.of (map_get' (by omega) he) ?_ | refine yf rfl ?_ | refine yt rfl ?_ | refine yo rfl ?_ | refine yc rfl ?_ | refine ys rfl ?_ | refine ye rfl ?_ | refine yn rfl ?_ | refine zw ?_ | refine zdt ?_ | refine zdf ?_ | refine znt ?_ | refine znf ?_ | refine zcd ?_ | refine zci ?_ | refine zc3 ?_) <;> (conv => whnf)))
      exact hR (L.length - (i + 1)) _ _ (by omega) ⟨i + 1, _, by omega, rfl, (by repeat (first | exact Fr.le_nil | refine Fr.le_cons rfl ?_)), rfl⟩
    · ((conv => whnf); repeat ((first | refine SIf.df (by omega) ?_ | refine yf rfl ?_ | refine yt rfl ?_ | refine yo rfl ?_ | refine yc rfl ?_ | refine ys rfl ?_ | refine ye rfl ?_ | refine yn rfl ?_ | refine zw ?_ | refine zdt ?_ | refine zdf ?_ | refine znt ?_ | refine znf ?_ | refine zcd ?_ | refine zci ?_ | refine zc3 ?_) <;> (conv => whnf)))
      exact hK
set_option maxHeartbeats 4000000 in
theorem lay_at {h : Heap} {lv0 : V} {L : List EnD} (hl0 : EnsV lv0 L) (hn : L.length ≤ 100000) (e : EnD) (gone : Bool) {K : V → Heap → Prop} (hK : ∀ lv, EnsV lv (layD e gone L) → K lv h) : ACall P 72 [lv0, .agg (enR e), .b gone] h K := by
  have hlm : (L.map enR).length = L.length := List.length_map _
  by_cases hL : L = []
  · subst hL
    refine fn_sv (hG _ AF.f72 rfl) rfl ?_
    cases gone
    · rcases hl0 with ⟨rfl, _⟩ | rfl
      all_goals
        ((conv => whnf); repeat ((first | refine SLoopV.un rfl ?_ | refine SEx.of (x := [enR e]) rfl ?_ | refine SEx.of (Heap.get_push_self _ _) ?_ | refine SEx.of (Heap.gp (by decide) (Heap.get_push_self _ _)) ?_ | refine yf rfl ?_ | refine yt rfl ?_ | refine yo rfl ?_ | refine yc rfl ?_ | refine ys rfl ?_ | refine ye rfl ?_ | refine yn rfl ?_ | refine zw ?_ | refine zdt ?_ | refine zdf ?_ | refine znt ?_ | refine znf ?_ | refine zcd ?_ | refine zci ?_ | refine zc3 ?_) <;> (conv => whnf)))
        exact hK _ (.inr rfl)
    · rcases hl0 with ⟨rfl, _⟩ | rfl
      all_goals
        ((conv => whnf); repeat ((first | refine SLoopV.un rfl ?_ | refine yf rfl ?_ | refine yt rfl ?_ | refine yo rfl ?_ | refine yc rfl ?_ | refine ys rfl ?_ | refine ye rfl ?_ | refine yn rfl ?_ | refine zw ?_ | refine zdt ?_ | refine zdf ?_ | refine znt ?_ | refine znf ?_ | refine zcd ?_ | refine zci ?_ | refine zc3 ?_) <;> (conv => whnf)))
        exact hK _ (.inl ⟨rfl, rfl⟩)
  have e1 : lv0 = .sl none 3 (L.map enR) := by rcases hl0 with ⟨_, h⟩ | h; exact absurd h hL; exact h
  subst e1
  refine fn_sv (hG _ AF.f72 rfl) rfl ?_
  ((conv => whnf); repeat ((first | refine yf rfl ?_ | refine yt rfl ?_ | refine yo rfl ?_ | refine yc rfl ?_ | refine ys rfl ?_ | refine ye rfl ?_ | refine yn rfl ?_ | refine zw ?_ | refine zdt ?_ | refine zdf ?_ | refine znt ?_ | refine znf ?_ | refine zcd ?_ | refine zci ?_ | refine zc3 ?_) <;> (conv => whnf)))
  refine SLoopV.by (fun q fr st => ∃ (i : Nat) (lo : Heap) (ov : V) (O : List EnD) (d : Bool), i ≤ L.length ∧ q = L.length - i ∧ OutV lo ov O ∧ layD e gone L = O ++ layD e d (L.drop i) ∧ O.length ≤ 2 * i ∧ 0 < lo.next ∧ lo.get 0 = some (.cs (enR e)) ∧
      Fr.le [(13, .i .i64 i), (12, .i .i64 (L.map enR).length), (8, .b d), (7, ov), (4, .p (.l 0) 0), (0, .sl none 3 (L.map enR))] fr ∧ st = ⟨h, lo⟩)
    L.length ⟨0, _, .nils, [], gone, Nat.zero_le _, rfl, .inl ⟨rfl, rfl⟩, rfl, Nat.le_refl _, Nat.lt_succ_self _, Heap.get_push_self _ _, (by repeat (first | exact Fr.le_nil | refine Fr.le_cons rfl ?_)), rfl⟩ ?_
  rintro q fr st ⟨i, lo, ov, O, d, hi, rfl, hov, heq, hO, hl1, hb, hle0, rfl⟩
  refine ⟨_, hle0, fun R hR => ?_⟩
  have hOm : (O.map enR).length = O.length := List.length_map _
  have p0 : (lo.push .spare).get 0 = some (.cs (enR e)) := Heap.gp (by omega) hb
  have p2 : ((lo.push .spare).push .spare).get 0 = some (.cs (enR e)) := Heap.gp (by show 0 ≠ lo.next + 1; omega) p0
  by_cases hin : i < L.length
  · have he := List.getElem?_eq_getElem hin
    have hdr := List.drop_eq_getElem_cons hin
    generalize L[i] = x at he hdr
    have hun : layD e d (x :: L.drop (i + 1)) = if x.key = e.key then layD e d (L.drop (i + 1)) else if (!d && Op.bytesLess e.key x.key) = true then e :: x :: layD e true (L.drop (i + 1)) else x :: layD e d (L.drop (i + 1)) := by
      conv => lhs; unfold layD
    rw [hdr, hun] at heq
    by_cases c1 : x.key = e.key
    · have hc1 : (x.key == e.key) = true := by simpa using c1
      rw [if_pos c1] at heq
      ((conv => whnf); repeat ((first | refine SIf.dt (show (i : Int) < (L.map enR).length by omega) ?_ | refine SChk.ix (by omega) (by omega) ?_ | refine SIf.tt hc1 ?_ | refine SWrap.w64 (by omega) (by omega) ?_ | refine SEx.of (map_get' (by omega) he) ?_ | refine SEx.of (hb) ?_ | refine yf rfl ?_ | refine yt rfl ?_ | refine yo rfl ?_ | refine yc rfl ?_ | refine ys rfl ?_ | refine ye rfl ?_ | refine yn rfl ?_ | refine zw ?_ | refine zdt ?_ | refine zdf ?_ | refine znt ?_ | refine znf ?_ | refine zcd ?_ | refine zci ?_ | refine zc3 ?_) <;> (conv => whnf)))
      exact hR (L.length - (i + 1)) _ _ (by omega) ⟨i + 1, lo, ov, O, d, by omega, rfl, hov, heq, by omega, hl1, hb, (by repeat (first | exact Fr.le_nil | refine Fr.le_cons rfl ?_)), rfl⟩
    have hc1 : (x.key == e.key) = false := by simpa using c1
    rw [if_neg c1] at heq
    by_cases c2 : (!d && Op.bytesLess e.key x.key) = true
    · rw [if_pos c2] at heq
      have c34 : d = false ∧ Op.bytesLess e.key x.key = true := by simpa using c2
      obtain ⟨rfl, c4⟩ := c34
      have heq' : layD e gone L = (O ++ [e] ++ [x]) ++ layD e true (L.drop (i + 1)) := by rw [heq]; simp
      rcases hov with ⟨rfl, rfl⟩ | ⟨t, rfl, ht1, ht2, hne⟩
      · have f1 : (((lo.push .spare).push .spare).push .spare).get (lo.next + 1) = some .spare := Heap.gp (by show lo.next + 1 ≠ lo.next + 1 + 1; omega) (Heap.get_push_self _ _)
        ((conv => whnf); repeat ((first | refine SIf.dt (show (i : Int) < (L.map enR).length by omega) ?_ | refine SChk.ix (by omega) (by omega) ?_ | refine SIf.ff hc1 ?_ | refine SIf.tt ((gtr_eq c1).trans c4) ?_ | refine SEx.of (x := [enR e]) rfl ?_ | refine SEx.of (x := [enR x]) rfl ?_ | refine SWrap.w64 (by omega) (by omega) ?_ | refine SEx.of (map_get' (by omega) he) ?_ | refine SEx.of (hb) ?_ | refine SEx.of (f1) ?_ | refine SEx.of (p2) ?_ | refine yf rfl ?_ | refine yt rfl ?_ | refine yo rfl ?_ | refine yc rfl ?_ | refine ys rfl ?_ | refine ye rfl ?_ | refine yn rfl ?_ | refine zw ?_ | refine zdt ?_ | refine zdf ?_ | refine znt ?_ | refine znf ?_ | refine zcd ?_ | refine zci ?_ | refine zc3 ?_) <;> (conv => whnf)))
        exact hR (L.length - (i + 1)) _ _ (by omega) ⟨i + 1, _, _, [] ++ [e] ++ [x], true, by omega, rfl, .inr ⟨lo.next + 1 + 1 + 1, rfl, Nat.lt_succ_self _, Heap.get_push_self _ _, by simp⟩, heq', by simp; omega, Nat.succ_pos _, Heap.gp (by show 0 ≠ lo.next + 1 + 1 + 1; omega) (Heap.gr (by omega) (Heap.gp (by show 0 ≠ lo.next + 1 + 1; omega) p2)), (by repeat (first | exact Fr.le_nil | refine Fr.le_cons rfl ?_)), rfl⟩
      · have ht0 : t ≠ 0 := by rintro rfl; rw [ht2] at hb; cases hb
        have f0 : (lo.push .spare).get t = some .spare := Heap.gp (by omega) ht2
        have f1 : ((((lo.push .spare).remove t).push .spare).push .spare).get (lo.next + 1) = some .spare := Heap.gp (by show lo.next + 1 ≠ lo.next + 1 + 1; omega) (Heap.get_push_self _ _)
        ((conv => whnf); repeat ((first | refine SIf.dt (show (i : Int) < (L.map enR).length by omega) ?_ | refine SChk.ix (by omega) (by omega) ?_ | refine SIf.ff hc1 ?_ | refine SIf.tt ((gtr_eq c1).trans c4) ?_ | refine SChk.mk (by simp [roomOk]; omega) ?_ | refine SEx.of (x := [enR e]) rfl ?_ | refine SEx.of (x := [enR x]) rfl ?_ | refine SWrap.w64 (by omega) (by omega) ?_ | refine SEx.of (map_get' (by omega) he) ?_ | refine SEx.of (hb) ?_ | refine SEx.of (f0) ?_ | refine SEx.of (f1) ?_ | refine yf rfl ?_ | refine yt rfl ?_ | refine yo rfl ?_ | refine yc rfl ?_ | refine ys rfl ?_ | refine ye rfl ?_ | refine yn rfl ?_ | refine zw ?_ | refine zdt ?_ | refine zdf ?_ | refine znt ?_ | refine znf ?_ | refine zcd ?_ | refine zci ?_ | refine zc3 ?_) <;> (conv => whnf)))
        exact hR (L.length - (i + 1)) _ _ (by omega) ⟨i + 1, _, _, O ++ [e] ++ [x], true, by omega, rfl, .inr ⟨lo.next + 1 + 1 + 1, by first | (rw [List.map_append, List.map_append]; done) | (rw [List.map_append, List.map_append]; rfl), Nat.lt_succ_self _, Heap.get_push_self _ _, by simp⟩, heq', by simp; omega, Nat.succ_pos _, Heap.gp (by show 0 ≠ lo.next + 1 + 1 + 1; omega) (Heap.gr (by omega) (Heap.gp (by show 0 ≠ lo.next + 1 + 1; omega) (Heap.gp (by show 0 ≠ lo.next + 1; omega) (Heap.gr (Ne.symm ht0) p0)))), (by repeat (first | exact Fr.le_nil | refine Fr.le_cons rfl ?_)), rfl⟩
    · rw [if_neg c2] at heq
      have heq' : layD e gone L = (O ++ [x]) ++ layD e d (L.drop (i + 1)) := by rw [heq]; simp
      have c5 : (!d) = true → Op.bytesLess e.key x.key = false := by
        intro hd
        rw [hd] at c2
        simpa using c2
      cases d
      · have c6 := c5 rfl
        rcases hov with ⟨rfl, rfl⟩ | ⟨t, rfl, ht1, ht2, hne⟩
        · ((conv => whnf); repeat ((first | refine SIf.dt (show (i : Int) < (L.map enR).length by omega) ?_ | refine SChk.ix (by omega) (by omega) ?_ | refine SIf.ff hc1 ?_ | refine SIf.ff ((gtr_eq c1).trans c6) ?_ | refine SEx.of (x := [enR x]) rfl ?_ | refine SWrap.w64 (by omega) (by omega) ?_ | refine SEx.of (map_get' (by omega) he) ?_ | refine SEx.of (hb) ?_ | refine yf rfl ?_ | refine yt rfl ?_ | refine yo rfl ?_ | refine yc rfl ?_ | refine ys rfl ?_ | refine ye rfl ?_ | refine yn rfl ?_ | refine zw ?_ | refine zdt ?_ | refine zdf ?_ | refine znt ?_ | refine znf ?_ | refine zcd ?_ | refine zci ?_ | refine zc3 ?_) <;> (conv => whnf)))
          exact hR (L.length - (i + 1)) _ _ (by omega) ⟨i + 1, _, _, [] ++ [x], false, by omega, rfl, .inr ⟨lo.next + 1, rfl, Nat.lt_succ_self _, Heap.get_push_self _ _, by simp⟩, heq', by simp; omega, Nat.succ_pos _, p2, (by repeat (first | exact Fr.le_nil | refine Fr.le_cons rfl ?_)), rfl⟩
        · have ht0 : t ≠ 0 := by rintro rfl; rw [ht2] at hb; cases hb
          have f0 : (lo.push .spare).get t = some .spare := Heap.gp (by omega) ht2
          ((conv => whnf); repeat ((first | refine SIf.dt (show (i : Int) < (L.map enR).length by omega) ?_ | refine SChk.ix (by omega) (by omega) ?_ | refine SIf.ff hc1 ?_ | refine SIf.ff ((gtr_eq c1).trans c6) ?_ | refine SChk.mk (by simp [roomOk]; omega) ?_ | refine SEx.of (x := [enR x]) rfl ?_ | refine SWrap.w64 (by omega) (by omega) ?_ | refine SEx.of (map_get' (by omega) he) ?_ | refine SEx.of (hb) ?_ | refine SEx.of (f0) ?_ | refine yf rfl ?_ | refine yt rfl ?_ | refine yo rfl ?_ | refine yc rfl ?_ | refine ys rfl ?_ | refine ye rfl ?_ | refine yn rfl ?_ | refine zw ?_ | refine zdt ?_ | refine zdf ?_ | refine znt ?_ | refine znf ?_ | refine zcd ?_ | refine zci ?_ | refine zc3 ?_) <;> (conv => whnf)))
          exact hR (L.length - (i + 1)) _ _ (by omega) ⟨i + 1, _, _, O ++ [x], false, by omega, rfl, .inr ⟨lo.next + 1, by first | (rw [List.map_append]; done) | (rw [List.map_append]; rfl), Nat.lt_succ_self _, Heap.get_push_self _ _, by simp⟩, heq', by simp; omega, Nat.succ_pos _, Heap.gp (by show 0 ≠ lo.next + 1; omega) (Heap.gr (Ne.symm ht0) p0), (by repeat (first | exact Fr.le_nil | refine Fr.le_cons rfl ?_)), rfl⟩
      · rcases hov with ⟨rfl, rfl⟩ | ⟨t, rfl, ht1, ht2, hne⟩
        · ((conv => whnf); repeat ((first | refine SIf.dt (show (i : Int) < (L.map enR).length by omega) ?_ | refine SChk.ix (by omega) (by omega) ?_ | refine SIf.ff hc1 ?_ | refine SEx.of (x := [enR x]) rfl ?_ | refine SWrap.w64 (by omega) (by omega) ?_ | refine SEx.of (map_get' (by omega) he) ?_ | refine SEx.of (hb) ?_ | refine yf rfl ?_ | refine yt rfl ?_ | refine yo rfl ?_ | refine yc rfl ?_ | refine ys rfl ?_ | refine ye rfl ?_ | refine yn rfl ?_ | refine zw ?_ | refine zdt ?_ | refine zdf ?_ | refine znt ?_ | refine znf ?_ | refine zcd ?_ | refine zci ?_ | refine zc3 ?_) <;> (conv => whnf)))
          exact hR (L.length - (i + 1)) _ _ (by omega) ⟨i + 1, _, _, [] ++ [x], true, by omega, rfl, .inr ⟨lo.next + 1, rfl, Nat.lt_succ_self _, Heap.get_push_self _ _, by simp⟩, heq', by simp; omega, Nat.succ_pos _, p2, (by repeat (first | exact Fr.le_nil | refine Fr.le_cons rfl ?_)), rfl⟩
        · have ht0 : t ≠ 0 := by rintro rfl; rw [ht2] at hb; cases hb
          have f0 : (lo.push .spare).get t = some .spare := Heap.gp (by omega) ht2
          ((conv => whnf); repeat ((first | refine SIf.dt (show (i : Int) < (L.map enR).length by omega) ?_ | refine SChk.ix (by omega) (by omega) ?_ | refine SIf.ff hc1 ?_ | refine SChk.mk (by simp [roomOk]; omega) ?_ | refine SEx.of (x := [enR x]) rfl ?_ | refine SWrap.w64 (by omega) (by omega) ?_ | refine SEx.of (map_get' (by omega) he) ?_ | refine SEx.of (hb) ?_ | refine SEx.of (f0) ?_ | refine yf rfl ?_ | refine yt rfl ?_ | refine yo rfl ?_ | refine yc rfl ?_ | refine ys rfl ?_ | refine ye rfl ?_ | refine yn rfl ?_ | refine zw ?_ | refine zdt ?_ | refine zdf ?_ | refine znt ?_ | refine znf ?_ | refine zcd ?_ | refine zci ?_ | refine zc3 ?_) <;> (conv => whnf)))
          exact hR (L.length - (i + 1)) _ _ (by omega) ⟨i + 1, _, _, O ++ [x], true, by omega, rfl, .inr ⟨lo.next + 1, by first | (rw [List.map_append]; done) | (rw [List.map_append]; rfl), Nat.lt_succ_self _, Heap.get_push_self _ _, by simp⟩, heq', by simp; omega, Nat.succ_pos _, Heap.gp (by show 0 ≠ lo.next + 1; omega) (Heap.gr (Ne.symm ht0) p0), (by repeat (first | exact Fr.le_nil | refine Fr.le_cons rfl ?_)), rfl⟩
  · obtain rfl : i = L.length := by omega
    rw [List.drop_length] at heq
    cases d
    · have heq' : layD e gone L = O ++ [e] := heq
      rcases hov with ⟨rfl, rfl⟩ | ⟨t, rfl, ht1, ht2, hne⟩
      · ((conv => whnf); repeat ((first | refine SIf.df (by omega) ?_ | refine SEx.of (x := [enR e]) rfl ?_ | refine SEx.of (hb) ?_ | refine yf rfl ?_ | refine yt rfl ?_ | refine yo rfl ?_ | refine yc rfl ?_ | refine ys rfl ?_ | refine ye rfl ?_ | refine yn rfl ?_ | refine zw ?_ | refine zdt ?_ | refine zdf ?_ | refine znt ?_ | refine znf ?_ | refine zcd ?_ | refine zci ?_ | refine zc3 ?_) <;> (conv => whnf)))
        exact hK _ (.inr (by rw [heq']; rfl))
      · have f0 : (lo.push .spare).get t = some .spare := Heap.gp (by omega) ht2
        ((conv => whnf); repeat ((first | refine SIf.df (by omega) ?_ | refine SChk.mk (by simp [roomOk]; omega) ?_ | refine SEx.of (x := [enR e]) rfl ?_ | refine SEx.of (hb) ?_ | refine SEx.of (f0) ?_ | refine yf rfl ?_ | refine yt rfl ?_ | refine yo rfl ?_ | refine yc rfl ?_ | refine ys rfl ?_ | refine ye rfl ?_ | refine yn rfl ?_ | refine zw ?_ | refine zdt ?_ | refine zdf ?_ | refine znt ?_ | refine znf ?_ | refine zcd ?_ | refine zci ?_ | refine zc3 ?_) <;> (conv => whnf)))
        exact hK _ (.inr (by first | (rw [heq', List.map_append]; done) | (rw [heq', List.map_append]; rfl)))
    · have heq' : layD e gone L = O := by rw [heq]; exact List.append_nil _
      rcases hov with ⟨rfl, rfl⟩ | ⟨t, rfl, ht1, ht2, hne⟩
      · ((conv => whnf); repeat ((first | refine SIf.df (by omega) ?_ | refine yf rfl ?_ | refine yt rfl ?_ | refine yo rfl ?_ | refine yc rfl ?_ | refine ys rfl ?_ | refine ye rfl ?_ | refine yn rfl ?_ | refine zw ?_ | refine zdt ?_ | refine zdf ?_ | refine znt ?_ | refine znf ?_ | refine zcd ?_ | refine zci ?_ | refine zc3 ?_) <;> (conv => whnf)))
        exact hK _ (.inl ⟨rfl, heq'⟩)
      · ((conv => whnf); repeat ((first | refine SIf.df (by omega) ?_ | refine yf rfl ?_ | refine yt rfl ?_ | refine yo rfl ?_ | refine yc rfl ?_ | refine ys rfl ?_ | refine ye rfl ?_ | refine yn rfl ?_ | refine zw ?_ | refine zdt ?_ | refine zdf ?_ | refine znt ?_ | refine znf ?_ | refine zcd ?_ | refine zci ?_ | refine zc3 ?_) <;> (conv => whnf)))
        exact hK _ (.inr (by rw [heq']))
end
end Go.Eng
