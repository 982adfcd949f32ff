/-
What one knows: events taken, all entries.
-/
import Derived.Test.YtcckglahpbmakaaGreatCa1
set_option linter.unusedVariables false
set_option linter.unusedSimpArgs false
namespace Go.Eng
open Go
def okAp (rev from_ upto : Int) (xs : List EvD) : Bool := decide (0 ≤ rev) && decide (rev = from_) && decide (from_ ≤ upto) && okV from_ upto from_ xs
structure SortedOk (P : Program) : Prop where
  keys : ∀ (h : Heap) (k mk : Nat) (c : List V) (es : List (V × V)) (ks : List (List UInt8)), h.get k = some (.cs c) → c[0]? = some (.m (.g mk)) → h.get mk = some (.mp none es) → es.map Prod.fst = ks.map V.s → ks.Nodup →
    (∀ x ∈ ks, x.length ≤ 9223372036854775807) → ks.length ≤ 1000000 → ∀ K : V → Heap → Prop, K (.sl none 1 ((sortS ks).map strR)) h → ACall P 57 [.fn 104 [] [.p (.g k) 0]] h K
  none : ∀ (h : Heap) (k : Nat) (c : List V), h.get k = some (.cs c) → c[0]? = some .nilm → ∀ K : V → Heap → Prop, K .nils h → ACall P 57 [.fn 104 [] [.p (.g k) 0]] h K
def EnsV (lv : V) (L : List EnD) : Prop := (lv = .nils ∧ L = []) ∨ lv = .sl none 3 (L.map enR)
section
variable {P : Program} (hG : FnsOk P AF.fns.get)
include hG
set_option maxHeartbeats 4000000 in
theorem call_at (hS : SortedOk P) {h : Heap} {a : Nat} {m : Option Nat} {rev : Int} {D L : List EnD} (hc : CacheAt h a m rev D) (hD : ∀ e ∈ D, EnOk e) (hn : D.length ≤ 100000) (hr : CaRel D L) {K : V → Heap → Prop}
    (hK : ∀ lv h', EnsV lv L → Heap.Keeps (fun _ => False) h h' → K lv h') : ACall P 21 [.p (.g a) 0] h K := by
  obtain ⟨h1, ⟨hm0, h2, h3, h4⟩ | ⟨mk, hm0, h2, h3, h4, h5⟩⟩ := hc
  · have hL : L = [] := by
      have := hr.len
      rw [h2] at this
      exact List.length_eq_zero_iff.1 this.symm
    have hs := fun K => hS.none (h.push (.cs [.nilm])) h.next _ (Heap.get_push_self _ _) rfl (K := K)
    refine fn_sv (hG _ AF.f21 rfl) rfl ?_
    ((conv => whnf); repeat ((first | refine SCall.app (fn_sv (hG _ AF.f58 rfl) rfl) ?_ | refine SCall.app (hs _) ?_ | refine SLoopV.un rfl ?_ | refine SEx.of (h4) ?_ | refine yf rfl ?_ | refine yt rfl ?_ | refine yo rfl ?_ | refine yc rfl ?_ | refine ys rfl ?_ | refine ye rfl ?_ | refine yn rfl ?_ | refine zw ?_ | refine zdt ?_ | refine zdf ?_ | refine znt ?_ | refine znf ?_ | refine zcd ?_ | refine zci ?_ | refine zc3 ?_) <;> (conv => whnf)))
    exact hK _ _ (.inl ⟨rfl, hL⟩) (.push (.refl _ _) _)
  · have hs := fun K => hS.keys (h.push (.cs [.m (.g mk)])) h.next mk _ (D.map enP) (D.map (·.key)) (Heap.get_push_self _ _) rfl (Heap.gp (by omega) h5) (by simp [enP, Function.comp_def]) hr.nd (fun x hx => by
      obtain ⟨e, he, rfl⟩ := List.mem_map.1 hx
      exact (hD e he).key) (by simp; omega) (K := K)
    rw [hr.keys] at hs
    have hlm : ((L.map (·.key)).map strR).length = L.length := by simp
    have hLn : L.length ≤ 100000 := by have := hr.len; omega
    have hk0 : Heap.Keeps (fun _ => False) h (h.push (.cs [.m (.g mk)])) := .push (.refl _ _) _
    have g4 : (h.push (.cs [.m (.g mk)])).get a = some (.cs [.m (.g mk), .i .i64 rev]) := Heap.gp (by omega) h4
    have g5 : (h.push (.cs [.m (.g mk)])).get mk = some (.mp none (D.map enP)) := Heap.gp (by omega) h5
    refine fn_sv (hG _ AF.f21 rfl) rfl ?_
    ((conv => whnf); repeat ((first | refine SCall.app (fn_sv (hG _ AF.f58 rfl) rfl) ?_ | refine SCall.app (hs _) ?_ | refine SEx.of (h4) ?_ | refine yf rfl ?_ | refine yt rfl ?_ | refine yo rfl ?_ | refine yc rfl ?_ | refine ys rfl ?_ | refine ye rfl ?_ | refine yn rfl ?_ | refine zw ?_ | refine zdt ?_ | refine zdf ?_ | refine znt ?_ | refine znf ?_ | refine zcd ?_ | refine zci ?_ | refine zc3 ?_) <;> (conv => whnf)))
    generalize h.push (.cs [.m (.g mk)]) = hh at *
    refine SLoopV.by (fun q fr st => ∃ (i : Nat) (lo : Heap) (lv : V), i ≤ L.length ∧ q = L.length - i ∧ ((i = 0 ∧ lv = .nils) ∨ (0 < i ∧ ∃ t, lv = .sl (some (.l t)) 3 ((L.take i).map enR) ∧ t < lo.next ∧ lo.get t = some .spare)) ∧
        Fr.le [(15, .i .i64 i), (14, .i .i64 ((L.map (·.key)).map strR).length), (13, .sl none 1 ((L.map (·.key)).map strR)), (3, lv), (0, .p (.g a) 0)] fr ∧ st = ⟨hh, lo⟩)
      L.length ⟨0, _, .nils, Nat.zero_le _, rfl, .inl ⟨rfl, rfl⟩, (by repeat (first | exact Fr.le_nil | refine Fr.le_cons rfl ?_)), rfl⟩ ?_
    rintro q fr st ⟨i, lo, lv, hi, rfl, hlv, hle0, rfl⟩
    refine ⟨_, hle0, fun R hR => ?_⟩
    by_cases hin : i < L.length
    · have he := List.getElem?_eq_getElem hin
      have hem := List.getElem_mem hin
      generalize L[i] = e at he hem
      have hge := hr.get hem
      have hmf := mfind_en e.key D
      rw [hge] at hmf
      have hcp := ccopied_ok hG e (hD e (getE_mem hge))
      have hkx : ((L.map (·.key)).map strR)[((i : Nat) : Int).toNat]? = some (strR e.key) := by rw [Int.toNat_natCast, List.getElem?_map, List.getElem?_map, he]; rfl
      have htk : L.take (i + 1) = L.take i ++ [e] := by rw [List.take_add_one, he]; rfl
      have htl : ((L.take i).map enR).length = i := by simp; omega
      rcases hlv with ⟨rfl, rfl⟩ | ⟨hi0, t, rfl, ht1, ht2⟩
      · ((conv => whnf); repeat ((first | refine SIf.dt (by omega) ?_ | refine SChk.ix (by omega) (by omega) ?_ | refine SOpt.of hmf ?_ | refine SCall.app (Pure.go hcp rfl) ?_ | refine SEx.of (x := [enR e]) rfl ?_ | refine SWrap.w64 (by omega) (by omega) ?_ | refine SEx.of (hkx) ?_ | refine SEx.of (g4) ?_ | refine SEx.of (g5) ?_ | refine yf rfl ?_ | refine yt rfl ?_ | refine yo rfl ?_ | refine yc rfl ?_ | refine ys rfl ?_ | refine ye rfl ?_ | refine yn rfl ?_ | refine zw ?_ | refine zdt ?_ | refine zdf ?_ | refine znt ?_ | refine znf ?_ | refine zcd ?_ | refine zci ?_ | refine zc3 ?_) <;> (conv => whnf)))
        exact hR (L.length - (0 + 1)) _ _ (by omega) ⟨0 + 1, _, _, by omega, rfl, .inr ⟨by omega, lo.next + 1, by first | (rw [htk]; done) | (rw [htk]; rfl), Nat.lt_succ_self _, Heap.get_push_self _ _⟩, (by repeat (first | exact Fr.le_nil | refine Fr.le_cons rfl ?_)), rfl⟩
      · have p1 : (lo.push .spare).get t = some .spare := Heap.gp (by omega) ht2
        ((conv => whnf); repeat ((first | refine SIf.dt (by omega) ?_ | refine SChk.ix (by omega) (by omega) ?_ | refine SOpt.of hmf ?_ | refine SCall.app (Pure.go hcp rfl) ?_ | refine SChk.mk (by simp [roomOk]; omega) ?_ | refine SEx.of (x := [enR e]) rfl ?_ | refine SWrap.w64 (by omega) (by omega) ?_ | refine SEx.of (hkx) ?_ | refine SEx.of (g4) ?_ | refine SEx.of (g5) ?_ | refine SEx.of (p1) ?_ | refine yf rfl ?_ | refine yt rfl ?_ | refine yo rfl ?_ | refine yc rfl ?_ | refine ys rfl ?_ | refine ye rfl ?_ | refine yn rfl ?_ | refine zw ?_ | refine zdt ?_ | refine zdf ?_ | refine znt ?_ | refine znf ?_ | refine zcd ?_ | refine zci ?_ | refine zc3 ?_) <;> (conv => whnf)))
        exact hR (L.length - (i + 1)) _ _ (by omega) ⟨i + 1, _, _, by omega, rfl, .inr ⟨by omega, lo.next + 1, by first | (rw [htk, List.map_append]; done) | (rw [htk, List.map_append]; rfl), Nat.lt_succ_self _, Heap.get_push_self _ _⟩, (by repeat (first | exact Fr.le_nil | refine Fr.le_cons rfl ?_)), rfl⟩
    · obtain rfl : i = L.length := by omega
      rcases hlv with ⟨h6, rfl⟩ | ⟨hi0, t, rfl, ht1, ht2⟩
      · ((conv => whnf); repeat ((first | refine SIf.df (by omega) ?_ | refine yf rfl ?_ | refine yt rfl ?_ | refine yo rfl ?_ | refine yc rfl ?_ | refine ys rfl ?_ | refine ye rfl ?_ | refine yn rfl ?_ | refine zw ?_ | refine zdt ?_ | refine zdf ?_ | refine znt ?_ | refine znf ?_ | refine zcd ?_ | refine zci ?_ | refine zc3 ?_) <;> (conv => whnf)))
        exact hK _ _ (.inl ⟨rfl, List.length_eq_zero_iff.1 h6⟩) hk0
      · rw [List.take_length] at *
        ((conv => whnf); repeat ((first | refine SIf.df (by omega) ?_ | refine yf rfl ?_ | refine yt rfl ?_ | refine yo rfl ?_ | refine yc rfl ?_ | refine ys rfl ?_ | refine ye rfl ?_ | refine yn rfl ?_ | refine zw ?_ | refine zdt ?_ | refine zdf ?_ | refine znt ?_ | refine znf ?_ | refine zcd ?_ | refine zci ?_ | refine zc3 ?_) <;> (conv => whnf)))
        exact hK _ _ (.inr rfl) hk0
set_option maxHeartbeats 8000000 in
theorem capply_at {h : Heap} {a : Nat} {m : Option Nat} {rev : Int} {D : List EnD} (hc : CacheAt h a m rev D) (xs : List EvD) (hxs : ∀ x ∈ xs, EnOk x.e) (hl : xs.length ≤ 9223372036854775807) (from_ upto : Int) {K : V → Heap → Prop}
    (hno : okAp rev from_ upto xs = false → K (.b false) h)
    (hK : okAp rev from_ upto xs = true → ∀ h', CacheAt h' a m upto (xs.foldl stepE D) → Heap.Keeps (fun n => n = a ∨ m = some n) h h' → K (.b true) h') : ACall P 62 [.p (.g a) 0, .i .i64 from_, .i .i64 upto, .sl none 4 (xs.map evR)] h K := by
  have hlm : (xs.map evR).length = xs.length := List.length_map _
  unfold okAp at hno hK
  refine fn_sv (hG _ AF.f62 rfl) rfl ?_
  obtain ⟨h1, ⟨hm0, h2, h3, h4⟩ | ⟨mk, hm0, h2, h3, h4, h5⟩⟩ := hc
  · subst h3
    ((conv => whnf); repeat ((first | refine SIf.dt (show (-1 : Int) < 0 by omega) ?_ | refine SEx.of (h4) ?_ | refine yf rfl ?_ | refine yt rfl ?_ | refine yo rfl ?_ | refine yc rfl ?_ | refine ys rfl ?_ | refine ye rfl ?_ | refine yn rfl ?_ | refine zw ?_ | refine zdt ?_ | refine zdf ?_ | refine znt ?_ | refine znf ?_ | refine zcd ?_ | refine zci ?_ | refine zc3 ?_) <;> (conv => whnf)))
    exact hno (by rw [decide_eq_false (by omega)]; rfl)
  by_cases hr : rev < 0
  · ((conv => whnf); repeat ((first | refine SIf.dt hr ?_ | refine SEx.of (h4) ?_ | refine yf rfl ?_ | refine yt rfl ?_ | refine yo rfl ?_ | refine yc rfl ?_ | refine ys rfl ?_ | refine ye rfl ?_ | refine yn rfl ?_ | refine zw ?_ | refine zdt ?_ | refine zdf ?_ | refine znt ?_ | refine znf ?_ | refine zcd ?_ | refine zci ?_ | refine zc3 ?_) <;> (conv => whnf)))
    exact hno (by rw [decide_eq_false (by omega)]; rfl)
  rw [decide_eq_true (show 0 ≤ rev by omega), Bool.true_and] at hno hK
  by_cases hf : rev = from_
  case neg =>
    ((conv => whnf); repeat ((first | refine SIf.df hr ?_ | refine SIf.nt hf ?_ | refine SEx.of (h4) ?_ | refine yf rfl ?_ | refine yt rfl ?_ | refine yo rfl ?_ | refine yc rfl ?_ | refine ys rfl ?_ | refine ye rfl ?_ | refine yn rfl ?_ | refine zw ?_ | refine zdt ?_ | refine zdf ?_ | refine znt ?_ | refine znf ?_ | refine zcd ?_ | refine zci ?_ | refine zc3 ?_) <;> (conv => whnf)))
    exact hno (by rw [decide_eq_false hf]; rfl)
  rw [decide_eq_true hf, Bool.true_and] at hno hK
  by_cases hu : upto < from_
  · ((conv => whnf); repeat ((first | refine SIf.df hr ?_ | refine SIf.nf hf ?_ | refine SIf.dt hu ?_ | refine SEx.of (h4) ?_ | refine yf rfl ?_ | refine yt rfl ?_ | refine yo rfl ?_ | refine yc rfl ?_ | refine ys rfl ?_ | refine ye rfl ?_ | refine yn rfl ?_ | refine zw ?_ | refine zdt ?_ | refine zdf ?_ | refine znt ?_ | refine znf ?_ | refine zcd ?_ | refine zci ?_ | refine zc3 ?_) <;> (conv => whnf)))
    exact hno (by rw [decide_eq_false (by omega)]; rfl)
  rw [decide_eq_true (by omega), Bool.true_and] at hno hK
  ((conv => whnf); repeat ((first | refine SIf.df hr ?_ | refine SIf.nf hf ?_ | refine SIf.df hu ?_ | refine SEx.of (h4) ?_ | refine yf rfl ?_ | refine yt rfl ?_ | refine yo rfl ?_ | refine yc rfl ?_ | refine ys rfl ?_ | refine ye rfl ?_ | refine yn rfl ?_ | refine zw ?_ | refine zdt ?_ | refine zdf ?_ | refine znt ?_ | refine znf ?_ | refine zcd ?_ | refine zci ?_ | refine zc3 ?_) <;> (conv => whnf)))
  refine SLoopV.by (fun q fr st => ∃ (i : Nat) (lo : Heap) (last : Int), i ≤ xs.length ∧ q = xs.length - i ∧ okV from_ upto from_ xs = okV from_ upto last (xs.drop i) ∧
      Fr.le [(39, .i .i64 i), (38, .i .i64 (xs.map evR).length), (37, .sl none 4 (xs.map evR)), (9, .i .i64 last), (3, .sl none 4 (xs.map evR)), (2, .i .i64 upto), (1, .i .i64 from_), (0, .p (.g a) 0)] fr ∧ st = ⟨h, lo⟩)
    xs.length ⟨0, _, from_, Nat.zero_le _, rfl, rfl, (by repeat (first | exact Fr.le_nil | refine Fr.le_cons rfl ?_)), rfl⟩ ?_
  rintro q fr st ⟨i, lo, last, hi, rfl, hok, hle0, rfl⟩
  refine ⟨_, hle0, fun R hR => ?_⟩
  by_cases hin : i < xs.length
  · have he := List.getElem?_eq_getElem hin
    have hdr := List.drop_eq_getElem_cons hin
    generalize xs[i] = x at he hdr
    have a2 : ∀ o o2, ((lo.push o).set lo.next o2).get lo.next = some o2 := fun o o2 => Heap.get_set_self (Heap.get_push_self _ _)
    rw [hdr] at hok
    simp only [okV] at hok
    by_cases c1 : x.e.rev < last
    · rw [decide_eq_false (by omega)] at hok
      ((conv => whnf); repeat ((first | refine SIf.dt (show (i : Int) < (xs.length : Nat) by omega) ?_ | refine SIf.dt c1 ?_ | refine SEx.of (map_get' (by omega) he) ?_ | refine SEx.of (a2 _ _) ?_ | refine SEx.of (Heap.get_push_self _ _) ?_ | refine yf rfl ?_ | refine yt rfl ?_ | refine yo rfl ?_ | refine yc rfl ?_ | refine ys rfl ?_ | refine ye rfl ?_ | refine yn rfl ?_ | refine zw ?_ | refine zdt ?_ | refine zdf ?_ | refine znt ?_ | refine znf ?_ | refine zcd ?_ | refine zci ?_ | refine zc3 ?_) <;> (conv => whnf)))
      exact hno hok
    rw [decide_eq_true (by omega)] at hok
    by_cases c2 : x.e.rev ≤ from_
    · rw [decide_eq_false (show ¬ from_ < x.e.rev by omega)] at hok
      ((conv => whnf); repeat ((first | refine SIf.dt (show (i : Int) < (xs.length : Nat) by omega) ?_ | refine SIf.df c1 ?_ | refine SIf.dt c2 ?_ | refine SEx.of (map_get' (by omega) he) ?_ | refine SEx.of (a2 _ _) ?_ | refine SEx.of (Heap.get_push_self _ _) ?_ | refine yf rfl ?_ | refine yt rfl ?_ | refine yo rfl ?_ | refine yc rfl ?_ | refine ys rfl ?_ | refine ye rfl ?_ | refine yn rfl ?_ | refine zw ?_ | refine zdt ?_ | refine zdf ?_ | refine znt ?_ | refine znf ?_ | refine zcd ?_ | refine zci ?_ | refine zc3 ?_) <;> (conv => whnf)))
      exact hno hok
    rw [decide_eq_true (show from_ < x.e.rev by omega)] at hok
    by_cases c3 : x.e.rev > upto
    · rw [decide_eq_false (show ¬ x.e.rev ≤ upto by omega)] at hok
      ((conv => whnf); repeat ((first | refine SIf.dt (show (i : Int) < (xs.length : Nat) by omega) ?_ | refine SIf.df c1 ?_ | refine SIf.df c2 ?_ | refine SIf.dt c3 ?_ | refine SEx.of (map_get' (by omega) he) ?_ | refine SEx.of (a2 _ _) ?_ | refine SEx.of (Heap.get_push_self _ _) ?_ | refine yf rfl ?_ | refine yt rfl ?_ | refine yo rfl ?_ | refine yc rfl ?_ | refine ys rfl ?_ | refine ye rfl ?_ | refine yn rfl ?_ | refine zw ?_ | refine zdt ?_ | refine zdf ?_ | refine znt ?_ | refine znf ?_ | refine zcd ?_ | refine zci ?_ | refine zc3 ?_) <;> (conv => whnf)))
      exact hno hok
    rw [decide_eq_true (show x.e.rev ≤ upto by omega)] at hok
    ((conv => whnf); repeat ((first | refine SIf.dt (show (i : Int) < (xs.length : Nat) by omega) ?_ | refine SIf.df c1 ?_ | refine SIf.df c2 ?_ | refine SIf.df c3 ?_ | refine SWrap.w64 (by omega) (by omega) ?_ | refine SEx.of (map_get' (by omega) he) ?_ | refine SEx.of (a2 _ _) ?_ | refine SEx.of (Heap.get_push_self _ _) ?_ | refine yf rfl ?_ | refine yt rfl ?_ | refine yo rfl ?_ | refine yc rfl ?_ | refine ys rfl ?_ | refine ye rfl ?_ | refine yn rfl ?_ | refine zw ?_ | refine zdt ?_ | refine zdf ?_ | refine znt ?_ | refine znf ?_ | refine zcd ?_ | refine zci ?_ | refine zc3 ?_) <;> (conv => whnf)))
    exact hR (xs.length - (i + 1)) _ _ (by omega) ⟨i + 1, _, x.e.rev, by omega, rfl, hok, (by repeat (first | exact Fr.le_nil | refine Fr.le_cons rfl ?_)), rfl⟩
  · obtain rfl : i = xs.length := by omega
    rw [List.drop_length] at hok
    ((conv => whnf); repeat ((first | refine SIf.df (show ¬ ((xs.length : Nat) : Int) < (xs.length : Nat) by omega) ?_ | refine yf rfl ?_ | refine yt rfl ?_ | refine yo rfl ?_ | refine yc rfl ?_ | refine ys rfl ?_ | refine ye rfl ?_ | refine yn rfl ?_ | refine zw ?_ | refine zdt ?_ | refine zdf ?_ | refine znt ?_ | refine znf ?_ | refine zcd ?_ | refine zci ?_ | refine zc3 ?_) <;> (conv => whnf)))
    refine SLoopV.by (fun q fr st => ∃ (i : Nat) (hh lo : Heap), i ≤ xs.length ∧ q = xs.length - i ∧ Heap.Keeps (fun n => n = mk) h hh ∧ hh.get mk = some (.mp none (((xs.take i).foldl stepE D).map enP)) ∧
        Fr.le [(64, .i .i64 i), (63, .i .i64 (xs.map evR).length), (62, .sl none 4 (xs.map evR)), (2, .i .i64 upto), (0, .p (.g a) 0)] fr ∧ st = ⟨hh, lo⟩)
      xs.length ⟨0, h, _, Nat.zero_le _, rfl, .refl _ _, h5, (by repeat (first | exact Fr.le_nil | refine Fr.le_cons rfl ?_)), rfl⟩ ?_
    rintro q fr st ⟨i, hh, lo, hi, rfl, hk, hm, hle0, rfl⟩
    refine ⟨_, hle0, fun R hR => ?_⟩
    have g4 : hh.get a = some (.cs [.m (.g mk), .i .i64 rev]) := by rw [hk.2 a h1 (fun e => h2 e.symm)]; exact h4
    have hkk : ∀ o, Heap.Keeps (fun n => n = mk) h (hh.set mk o) := fun o => Heap.Keeps.set (b := fun n => n = mk) hk (.inl rfl) o
    by_cases hin : i < xs.length
    · have he := List.getElem?_eq_getElem hin
      have hxe := hxs _ (List.getElem_mem hin)
      generalize xs[i] = x at he hxe
      have htk : xs.take (i + 1) = xs.take i ++ [x] := by rw [List.take_add_one, he]; rfl
      have hst : (xs.take (i + 1)).foldl stepE D = stepE ((xs.take i).foldl stepE D) x := by rw [htk, List.foldl_append]; rfl
      have hcp := ccopied_ok hG x.e hxe
      have a2 : ∀ o o2, ((lo.push o).set lo.next o2).get lo.next = some o2 := fun o o2 => Heap.get_set_self (Heap.get_push_self _ _)
      cases hg : x.gone
      · have hrow : evR x = [.i .i64 x.e.rev, .s x.e.key, .sl none 1 (x.e.val.map byR), .b false] := by rw [← hg]; rfl
        have hge := (map_get' (f := evR) (j := ((i : Nat) : Int).toNat) (by omega) he).trans (congrArg some hrow)
        ((conv => whnf); repeat ((first | refine SIf.dt (show (i : Int) < (xs.length : Nat) by omega) ?_ | refine SCall.app (Pure.go hcp rfl) ?_ | refine SWrap.w64 (by omega) (by omega) ?_ | refine SEx.of (hge) ?_ | refine SEx.of (a2 _ _) ?_ | refine SEx.of (Heap.get_push_self _ _) ?_ | refine SEx.of (g4) ?_ | refine SEx.of (hm) ?_ | refine yf rfl ?_ | refine yt rfl ?_ | refine yo rfl ?_ | refine yc rfl ?_ | refine ys rfl ?_ | refine ye rfl ?_ | refine yn rfl ?_ | refine zw ?_ | refine zdt ?_ | refine zdf ?_ | refine znt ?_ | refine znf ?_ | refine zcd ?_ | refine zci ?_ | refine zc3 ?_) <;> (conv => whnf)))
        exact hR (xs.length - (i + 1)) _ _ (by omega) ⟨i + 1, _, _, by omega, rfl, hkk _, (Heap.get_set_self hm).trans (by rw [hst, stepE, hg]; simp only [Bool.false_eq_true, if_false]; rw [← mput_en]; rfl), (by repeat (first | exact Fr.le_nil | refine Fr.le_cons rfl ?_)), rfl⟩
      · have hrow : evR x = [.i .i64 x.e.rev, .s x.e.key, .sl none 1 (x.e.val.map byR), .b true] := by rw [← hg]; rfl
        have hge := (map_get' (f := evR) (j := ((i : Nat) : Int).toNat) (by omega) he).trans (congrArg some hrow)
        ((conv => whnf); repeat ((first | refine SIf.dt (show (i : Int) < (xs.length : Nat) by omega) ?_ | refine SWrap.w64 (by omega) (by omega) ?_ | refine SEx.of (hge) ?_ | refine SEx.of (a2 _ _) ?_ | refine SEx.of (Heap.get_push_self _ _) ?_ | refine SEx.of (g4) ?_ | refine SEx.of (hm) ?_ | refine yf rfl ?_ | refine yt rfl ?_ | refine yo rfl ?_ | refine yc rfl ?_ | refine ys rfl ?_ | refine ye rfl ?_ | refine yn rfl ?_ | refine zw ?_ | refine zdt ?_ | refine zdf ?_ | refine znt ?_ | refine znf ?_ | refine zcd ?_ | refine zci ?_ | refine zc3 ?_) <;> (conv => whnf)))
        exact hR (xs.length - (i + 1)) _ _ (by omega) ⟨i + 1, _, _, by omega, rfl, hkk _, (Heap.get_set_self hm).trans (by rw [hst, stepE, hg]; simp only [if_true]; rw [← mdel_en]; rfl), (by repeat (first | exact Fr.le_nil | refine Fr.le_cons rfl ?_)), rfl⟩
    · obtain rfl : i = xs.length := by omega
      rw [List.take_length] at hm
      ((conv => whnf); repeat ((first | refine SIf.df (show ¬ ((xs.length : Nat) : Int) < (xs.length : Nat) by omega) ?_ | refine SEx.of (g4) ?_ | refine yf rfl ?_ | refine yt rfl ?_ | refine yo rfl ?_ | refine yc rfl ?_ | refine ys rfl ?_ | refine ye rfl ?_ | refine yn rfl ?_ | refine zw ?_ | refine zdt ?_ | refine zdf ?_ | refine znt ?_ | refine znf ?_ | refine zcd ?_ | refine zci ?_ | refine zc3 ?_) <;> (conv => whnf)))
      exact hK hok _ ⟨Nat.lt_of_lt_of_le h1 hk.1, .inr ⟨mk, hm0, h2, Nat.lt_of_lt_of_le h3 hk.1, Heap.get_set_self g4, Heap.gs h2 hm⟩⟩ (Heap.Keeps.set (b := fun n => n = a ∨ m = some n) (hk.mono fun n _ e => .inr (by rw [hm0, e])) (.inl (.inl rfl)) _)
end
end Go.Eng
