/-
The log: events of one revision are laid behind; what is too much goes.
-/
import Derived.Test.YtcckglahpbmakaaGreatLgA
set_option linter.unusedVariables false
set_option linter.unusedSimpArgs false
namespace Go.Eng
open Go
theorem ev_put (L : List EvD) (d : Nat) (x : EvD) {n : Nat} (hn : n = L.length) : (L.map evR ++ List.replicate (d + 1) ev0).take (0 + n) ++ [evR x] ++ (L.map evR ++ List.replicate (d + 1) ev0).drop (0 + n + 1) = (L ++ [x]).map evR ++ List.replicate d ev0 := by
  subst hn
  have h1 : (L.map evR).length = L.length := List.length_map _
  rw [Nat.zero_add, List.take_append_of_le_length (by omega), List.take_of_length_le (by omega), List.drop_append, List.drop_of_length_le (by omega), h1, List.replicate_succ]
  simp
theorem ev_new (L : List EvD) (x : EvD) {n : Nat} (hn : n = L.length) : List.drop 0 (List.take (0 + n) (L.map evR ++ List.replicate 0 ev0)) ++ [evR x] = (L ++ [x]).map evR ++ List.replicate 0 ev0 := by
  subst hn
  have h1 : (L.map evR).length = L.length := List.length_map _
  rw [Nat.zero_add, List.replicate_zero, List.append_nil, List.drop_zero, List.take_of_length_le (by omega)]
  simp
theorem filt_filt {A : List EvD} {b c : Int} (h : b ≤ c) : (A.filter fun x => decide (b < x.e.rev)).filter (fun x => decide (c < x.e.rev)) = A.filter fun x => decide (c < x.e.rev) := by
  rw [List.filter_filter]
  refine List.filter_congr fun x _ => ?_
  by_cases k : c < x.e.rev
  · rw [decide_eq_true k, decide_eq_true (by omega)]; rfl
  · rw [decide_eq_false k]; rfl
theorem filt_all {A : List EvD} {b : Int} (h : ∀ x ∈ A, b < x.e.rev) : (A.filter fun x => decide (b < x.e.rev)) = A :=
  List.filter_eq_self.2 fun x hx => decide_eq_true (h x hx)
theorem filt_less {A : List EvD} {x : EvD} (h : A[0]? = some x) : (A.filter fun y => decide (x.e.rev < y.e.rev)).length < A.length := by
  cases A with
  | nil => cases h
  | cons a r =>
    simp at h
    subst h
    rw [List.filter_cons_of_neg (by simp), List.length_cons]
    have := List.length_filter_le (fun y : EvD => decide (a.e.rev < y.e.rev)) r
    omega
section
variable {P : Program} (hG : FnsOk P AF.fns.get)
include hG
theorem lcop_ok (x : EvD) (h : EnOk x.e) : Pure P 101 [.agg (evR x)] (· = .agg (evR x)) := by
  have hc := clone_byte hG x.e.val h.val
  refine pure_fn (hG _ AF.f101 rfl) rfl ?_
  ((conv => whnf); repeat ((first | refine SCall.app (Pure.go hc rfl) ?_ | refine yf rfl ?_ | refine yt rfl ?_ | refine yo rfl ?_ | refine yc rfl ?_ | refine ys rfl ?_ | refine ye rfl ?_ | refine yn rfl ?_ | refine zw ?_ | refine zdt ?_ | refine zdf ?_ | refine znt ?_ | refine znf ?_ | refine zcd ?_ | refine zci ?_ | refine zc3 ?_) <;> (conv => whnf)))
  exact pure_free rfl rfl
set_option maxHeartbeats 16000000 in
theorem ladd_at {h : Heap} {g : Nat} {r : Option Nat} {L : List EvD} {base last : Int} (hl : LogG h g r L base last) (hbd : ∀ x ∈ L, base < x.e.rev ∧ x.e.rev ≤ last) (hbl : base ≤ last) (es : List EvD) (hne : 0 < es.length) (hok : ∀ x ∈ es, EnOk x.e) {R : Int} (hR : ∀ x ∈ es, x.e.rev = R) (hlR : last < R)
    (hn1 : L.length ≤ 1000) (hn2 : es.length ≤ 1000) {K : V → Heap → Prop}
    (hK : ∀ h' r' base', LogG h' g r' ((L ++ es).filter fun x => decide (base' < x.e.rev)) base' R → base ≤ base' → base' ≤ R → ((L ++ es).filter fun x => decide (base' < x.e.rev)).length ≤ 64 → (∀ k, r' = some k → r = some k ∨ h.next ≤ k) → Heap.Keeps (fun n => n = g ∨ r = some n) h h' → K (.b true) h') :
    ACall P 56 [.p (.g g) 0, .sl none 4 (es.map evR)] h K := by
  have hel : (es.map evR).length = es.length := List.length_map _
  have he0 := List.getElem?_eq_getElem hne
  have hr0 := hR _ (List.getElem_mem hne)
  generalize es[0] = x0 at he0 hr0
  have hlast : ∃ bse, h.get g = some (.cs [bse, .i .i64 64, .i .i64 base, .i .i64 last]) := by
    obtain ⟨h1, ⟨_, _, h2⟩ | ⟨c, d, _, _, _, h4, _⟩⟩ := hl
    · exact ⟨_, h2⟩
    · exact ⟨_, h4⟩
  obtain ⟨bse, hgl⟩ := hlast
  refine fn_sp (hG _ AF.f56 rfl) rfl ?_
  ((conv => whnf); repeat ((first | refine SIf.df (show ¬ ((es.map evR).length : Int) = 0 by omega) ?_ | refine SChk.ix (by omega) (by omega) ?_ | refine SIf.df (show ¬ x0.e.rev ≤ last by omega) ?_ | refine SEx.of (hgl) ?_ | refine SEx.of (map_get' (f := evR) (by omega) he0) ?_ | refine yf rfl ?_ | refine yt rfl ?_ | refine yo rfl ?_ | refine yc rfl ?_ | refine ys rfl ?_ | refine ye rfl ?_ | refine yn rfl ?_ | refine zw ?_ | refine zdt ?_ | refine zdf ?_ | refine znt ?_ | refine znf ?_ | refine zcd ?_ | refine zci ?_ | refine zc3 ?_) <;> (conv => whnf)))
  refine SLoop.by (fun q fr st => ∃ (i : Nat) (lo : Heap), i ≤ es.length ∧ q = es.length - i ∧ Fr.le [(28, .i .i64 i), (27, .i .i64 (es.map evR).length), (1, .sl none 4 (es.map evR)), (0, .p (.g g) 0)] fr ∧ st = ⟨h, lo⟩)
    es.length ⟨0, _, Nat.zero_le _, rfl, (by repeat (first | exact Fr.le_nil | refine Fr.le_cons rfl ?_)), rfl⟩ ?_
  rintro q fr st ⟨i, lo, hi, rfl, hle0, rfl⟩
  refine ⟨_, hle0, fun R1 hR1 => ?_⟩
  by_cases hin : i < es.length
  · have he := List.getElem?_eq_getElem hin
    have hri := hR _ (List.getElem_mem hin)
    generalize es[i] = x at he hri
    by_cases hi0 : 0 < i
    · have hep := List.getElem?_eq_getElem (show i - 1 < es.length by omega)
      have hrp := hR _ (List.getElem_mem (show i - 1 < es.length by omega))
      generalize es[i - 1] = y at hep hrp
      ((conv => whnf); repeat ((first | refine SIf.dt (show (i : Int) < (es.map evR).length by omega) ?_ | refine SIf.dt (show (0 : Int) < i by omega) ?_ | refine SChk.ix (by omega) (by omega) ?_ | refine SIf.df (show ¬ x.e.rev < y.e.rev by omega) ?_ | refine SWrap.w64 (by omega) (by omega) ?_ | refine SEx.of (map_get' (f := evR) (j := ((i : Nat) : Int).toNat) (by omega) he) ?_ | refine SEx.of (map_get' (f := evR) (j := ((i : Int) - 1).toNat) (by omega) hep) ?_ | refine yf rfl ?_ | refine yt rfl ?_ | refine yo rfl ?_ | refine yc rfl ?_ | refine ys rfl ?_ | refine ye rfl ?_ | refine yn rfl ?_ | refine zw ?_ | refine zdt ?_ | refine zdf ?_ | refine znt ?_ | refine znf ?_ | refine zcd ?_ | refine zci ?_ | refine zc3 ?_) <;> (conv => whnf)))
      exact hR1 (es.length - (i + 1)) _ _ (by omega) ⟨i + 1, _, by omega, rfl, (by repeat (first | exact Fr.le_nil | refine Fr.le_cons rfl ?_)), rfl⟩
    · ((conv => whnf); repeat ((first | refine SIf.dt (show (i : Int) < (es.map evR).length by omega) ?_ | refine SIf.df (show ¬ (0 : Int) < i by omega) ?_ | refine SWrap.w64 (by omega) (by omega) ?_ | refine yf rfl ?_ | refine yt rfl ?_ | refine yo rfl ?_ | refine yc rfl ?_ | refine ys rfl ?_ | refine ye rfl ?_ | refine yn rfl ?_ | refine zw ?_ | refine zdt ?_ | refine zdf ?_ | refine znt ?_ | refine znf ?_ | refine zcd ?_ | refine zci ?_ | refine zc3 ?_) <;> (conv => whnf)))
      exact hR1 (es.length - (i + 1)) _ _ (by omega) ⟨i + 1, _, by omega, rfl, (by repeat (first | exact Fr.le_nil | refine Fr.le_cons rfl ?_)), rfl⟩
  obtain rfl : i = es.length := by omega
  ((conv => whnf); repeat ((first | refine SIf.df (show ¬ ((es.length : Nat) : Int) < (es.map evR).length by omega) ?_ | refine yf rfl ?_ | refine yt rfl ?_ | refine yo rfl ?_ | refine yc rfl ?_ | refine ys rfl ?_ | refine ye rfl ?_ | refine yn rfl ?_ | refine zw ?_ | refine zdt ?_ | refine zdf ?_ | refine znt ?_ | refine znf ?_ | refine zcd ?_ | refine zci ?_ | refine zc3 ?_) <;> (conv => whnf)))
  refine SLoop.by (fun q fr st => ∃ (j : Nat) (hh lo : Heap) (rj : Option Nat), j ≤ es.length ∧ q = es.length - j ∧ LogG hh g rj (L ++ es.take j) base last ∧ (∀ k, rj = some k → r = some k ∨ h.next ≤ k) ∧ Heap.Keeps (fun n => n = g ∨ r = some n) h hh ∧
      Fr.le [(50, .i .i64 j), (49, .i .i64 (es.map evR).length), (48, .sl none 4 (es.map evR)), (1, .sl none 4 (es.map evR)), (0, .p (.g g) 0)] fr ∧ st = ⟨hh, lo⟩)
    es.length ⟨0, h, _, r, Nat.zero_le _, rfl, by simpa using hl, fun k hk => .inl hk, .refl _ _, (by repeat (first | exact Fr.le_nil | refine Fr.le_cons rfl ?_)), rfl⟩ ?_
  clear hle0 hR1 hgl
  rintro q fr st ⟨j, hh, lo, rj, hj, rfl, hlj, hrj, hk, hle0, rfl⟩
  refine ⟨_, hle0, fun R1 hR1 => ?_⟩
  have hnx := hk.1
  by_cases hjn : j < es.length
  · have he := List.getElem?_eq_getElem hjn
    have hxo := hok _ (List.getElem_mem hjn)
    generalize es[j] = x at he hxo
    have hcop := lcop_ok hG x hxo
    have htk : L ++ es.take (j + 1) = L ++ es.take j ++ [x] := by rw [List.take_add_one, he, List.append_assoc]; rfl
    have htl : (L ++ es.take j).length ≤ 2000 := by simp; omega
    have b2 : ∀ o o2, ((lo.push o).set lo.next o2).get lo.next = some o2 := fun o o2 => Heap.get_set_self (Heap.get_push_self _ _)
    obtain ⟨l1, ⟨l2, l3, l4⟩ | ⟨c, d, l2, l3, l4, l5, l6⟩⟩ := hlj
    · have g1 : ∀ o, (hh.push o).get hh.next = some o := fun o => Heap.get_push_self _ o
      have p1 : ∀ o, (hh.push o).get g = some (.cs [.nils, .i .i64 64, .i .i64 base, .i .i64 last]) := fun o => Heap.gp (by omega) l4
      have p2 : ∀ o o', ((hh.push o).push o').get g = some (.cs [.nils, .i .i64 64, .i .i64 base, .i .i64 last]) := fun o o' => Heap.gp (by show g ≠ hh.next + 1; omega) (p1 o)
      ((conv => whnf); repeat ((first | refine SIf.dt (show (j : Int) < (es.map evR).length by omega) ?_ | refine SCall.app (Pure.go hcop rfl) ?_ | refine SWrap.w64 (by omega) (by omega) ?_ | refine SEx.of (map_get' (f := evR) (by omega) he) ?_ | refine SEx.of (b2 _ _) ?_ | refine SEx.of (Heap.get_push_self _ _) ?_ | refine SEx.of (l4) ?_ | refine SEx.of (p1 _) ?_ | refine SEx.of (p2 _ _) ?_ | refine SEx.of (g1 _) ?_ | refine yf rfl ?_ | refine yt rfl ?_ | refine yo rfl ?_ | refine yc rfl ?_ | refine ys rfl ?_ | refine ye rfl ?_ | refine yn rfl ?_ | refine zw ?_ | refine zdt ?_ | refine zdf ?_ | refine znt ?_ | refine znf ?_ | refine zcd ?_ | refine zci ?_ | refine zc3 ?_) <;> (conv => whnf)))
      refine hR1 (es.length - (j + 1)) _ _ (by omega) ⟨j + 1, _, _, some (hh.next + 1), by omega, rfl, ?_, fun k hk' => by cases hk'; exact .inr (by omega), Heap.Keeps.set (b := fun n => n = g ∨ r = some n) (.push (.push hk _) _) (.inl (.inl rfl)) _, (by repeat (first | exact Fr.le_nil | refine Fr.le_cons rfl ?_)), rfl⟩
      rw [htk, l3]
      exact ⟨(by show g < hh.next + 1 + 1; omega), .inr ⟨hh.next + 1, 0, rfl, by omega, Nat.lt_succ_self _, Heap.get_set_self (p2 _ _), Heap.gs (by omega) (Heap.get_push_self _ _)⟩⟩
    · have hwl := ev_len (L ++ es.take j) d
      have g1 : ∀ o, (hh.push o).get hh.next = some o := fun o => Heap.get_push_self _ o
      have p1 : ∀ o, (hh.push o).get g = some (.cs [.ms (.g c) 4 0 (L ++ es.take j).length, .i .i64 64, .i .i64 base, .i .i64 last]) := fun o => Heap.gp (by omega) l5
      have p2 : ∀ o, (hh.push o).get c = some (.arr 4 ((L ++ es.take j).map evR ++ List.replicate d ev0)) := fun o => Heap.gp (by omega) l6
      have hrc : r = some c ∨ h.next ≤ c := hrj c l2
      have hrc2 : (c = g ∨ r = some c) ∨ h.next ≤ c := by rcases hrc with e | e <;> simp [e]
      cases d with
      | zero =>
        have p3 : ∀ o o', (((hh.push o).remove c).push o').get g = some (.cs [.ms (.g c) 4 0 (L ++ es.take j).length, .i .i64 64, .i .i64 base, .i .i64 last]) := fun o o' => Heap.gp (by show g ≠ hh.next + 1; omega) (Heap.gr (Ne.symm l3) (p1 o))
        have hrow := ev_new (L ++ es.take j) x rfl
        rw [← htk] at hrow
        ((conv => whnf); repeat ((first | refine SIf.dt (show (j : Int) < (es.map evR).length by omega) ?_ | refine SCall.app (Pure.go hcop rfl) ?_ | refine SWrap.w64 (by omega) (by omega) ?_ | refine SChk.mk (by simp [roomOk] at htl ⊢; omega) ?_ | refine SChk.mk (decide_eq_true (by rw [hwl]; omega)) ?_ | refine SIf.df (by rw [hwl]; show ¬ 0 + (L ++ es.take j).length + 1 ≤ (L ++ es.take j).length + 0; omega) ?_ | refine SEx.of (map_get' (f := evR) (by omega) he) ?_ | refine SEx.of (b2 _ _) ?_ | refine SEx.of (Heap.get_push_self _ _) ?_ | refine SEx.of (l5) ?_ | refine SEx.of (p1 _) ?_ | refine SEx.of (p2 _) ?_ | refine SEx.of (p3 _ _) ?_ | refine SEx.of (g1 _) ?_ | refine yf rfl ?_ | refine yt rfl ?_ | refine yo rfl ?_ | refine yc rfl ?_ | refine ys rfl ?_ | refine ye rfl ?_ | refine yn rfl ?_ | refine zw ?_ | refine zdt ?_ | refine zdf ?_ | refine znt ?_ | refine znf ?_ | refine zcd ?_ | refine zci ?_ | refine zc3 ?_) <;> (conv => whnf)))
        refine hR1 (es.length - (j + 1)) _ _ (by omega) ⟨j + 1, _, _, some (hh.next + 1), by omega, rfl, ?_, fun k hk' => by cases hk'; exact .inr (by omega), Heap.Keeps.set (b := fun n => n = g ∨ r = some n) (.push (Heap.Keeps.remove (b := fun n => n = g ∨ r = some n) (.push hk _) hrc2) _) (.inl (.inl rfl)) _, (by repeat (first | exact Fr.le_nil | refine Fr.le_cons rfl ?_)), rfl⟩
        have hl1 : (L ++ es.take (j + 1)).length = (L ++ es.take j).length + 1 := by rw [htk]; simp; omega
        refine ⟨(by show g < hh.next + 1 + 1; omega), .inr ⟨hh.next + 1, 0, rfl, by omega, Nat.lt_succ_self _, ?_, ?_⟩⟩
        · rw [hl1]; exact Heap.get_set_self (p3 _ _)
        · rw [← hrow]; exact Heap.gs (by omega) (Heap.get_push_self _ _)
      | succ d =>
        have p3 : ∀ o o', ((hh.push o).set c o').get g = some (.cs [.ms (.g c) 4 0 (L ++ es.take j).length, .i .i64 64, .i .i64 base, .i .i64 last]) := fun o o' => Heap.gs (Ne.symm l3) (p1 o)
        have hrow := ev_put (L ++ es.take j) d x rfl
        rw [← htk] at hrow
        ((conv => whnf); repeat ((first | refine SIf.dt (show (j : Int) < (es.map evR).length by omega) ?_ | refine SCall.app (Pure.go hcop rfl) ?_ | refine SWrap.w64 (by omega) (by omega) ?_ | refine SChk.mk (by simp [roomOk] at htl ⊢; omega) ?_ | refine SChk.mk (decide_eq_true (by rw [hwl]; omega)) ?_ | refine SIf.dt (by rw [hwl]; show 0 + (L ++ es.take j).length + 1 ≤ (L ++ es.take j).length + (d + 1); omega) ?_ | refine SEx.of (map_get' (f := evR) (by omega) he) ?_ | refine SEx.of (b2 _ _) ?_ | refine SEx.of (Heap.get_push_self _ _) ?_ | refine SEx.of (l5) ?_ | refine SEx.of (p1 _) ?_ | refine SEx.of (p2 _) ?_ | refine SEx.of (p3 _ _) ?_ | refine SEx.of (g1 _) ?_ | refine yf rfl ?_ | refine yt rfl ?_ | refine yo rfl ?_ | refine yc rfl ?_ | refine ys rfl ?_ | refine ye rfl ?_ | refine yn rfl ?_ | refine zw ?_ | refine zdt ?_ | refine zdf ?_ | refine znt ?_ | refine znf ?_ | refine zcd ?_ | refine zci ?_ | refine zc3 ?_) <;> (conv => whnf)))
        refine hR1 (es.length - (j + 1)) _ _ (by omega) ⟨j + 1, _, _, some c, by omega, rfl, ?_, fun k hk' => by cases hk'; exact hrc, Heap.Keeps.set (b := fun n => n = g ∨ r = some n) (Heap.Keeps.set (b := fun n => n = g ∨ r = some n) (.push hk _) hrc2 _) (.inl (.inl rfl)) _, (by repeat (first | exact Fr.le_nil | refine Fr.le_cons rfl ?_)), rfl⟩
        have hl1 : (L ++ es.take (j + 1)).length = (L ++ es.take j).length + 1 := by rw [htk]; simp; omega
        refine ⟨(by show g < hh.next + 1; omega), .inr ⟨c, d, rfl, l3, (by show c < hh.next + 1; omega), ?_, ?_⟩⟩
        · rw [hl1]; exact Heap.get_set_self (p3 _ _)
        · rw [← hrow]; exact Heap.gs l3 (Heap.get_set_self (p2 _))
  obtain rfl : j = es.length := by omega
  rw [List.take_length] at hlj
  have hz := List.getElem?_eq_getElem (show es.length - 1 < es.length by omega)
  have hzr := hR _ (List.getElem_mem (show es.length - 1 < es.length by omega))
  generalize es[es.length - 1] = z at hz hzr
  have hbd2 : ∀ x ∈ L ++ es, base < x.e.rev ∧ x.e.rev ≤ R := fun x hx => by
    rcases List.mem_append.1 hx with hx | hx
    · have := hbd x hx; omega
    · have := hR x hx; omega
  have hl2 : ∃ hh2 : Heap, ∃ bse, hh.get g = some (.cs [bse, .i .i64 64, .i .i64 base, .i .i64 last]) ∧ hh2 = hh.set g (.cs [bse, .i .i64 64, .i .i64 base, .i .i64 R]) ∧ LogG hh2 g rj (L ++ es) base R := by
    obtain ⟨l1, ⟨l2, l3, l4⟩ | ⟨c, d, l2, l3, l4, l5, l6⟩⟩ := hlj
    · exact ⟨_, _, l4, rfl, l1, .inl ⟨l2, l3, Heap.get_set_self l4⟩⟩
    · exact ⟨_, _, l5, rfl, l1, .inr ⟨c, d, l2, l3, l4, Heap.get_set_self l5, Heap.gs l3 l6⟩⟩
  obtain ⟨hh2, bse, hgb, hh2e, hl2⟩ := hl2
  have hk2 : Heap.Keeps (fun n => n = g ∨ r = some n) h hh2 := by rw [hh2e]; exact Heap.Keeps.set (b := fun n => n = g ∨ r = some n) hk (.inl (.inl rfl)) _
  have hfa : (L ++ es).filter (fun x => decide (base < x.e.rev)) = L ++ es := filt_all fun x hx => (hbd2 x hx).1
  ((conv => whnf); repeat ((first | refine SIf.df (show ¬ ((es.length : Nat) : Int) < (es.map evR).length by omega) ?_ | refine SWrap.w64 (by omega) (by omega) ?_ | refine SChk.ix (by omega) (by omega) ?_ | refine SEx.of (hgb) ?_ | refine SEx.of (map_get' (f := evR) (j := (((es.map evR).length : Nat) - 1 : Int).toNat) (by omega) hz) ?_ | refine yf rfl ?_ | refine yt rfl ?_ | refine yo rfl ?_ | refine yc rfl ?_ | refine ys rfl ?_ | refine ye rfl ?_ | refine yn rfl ?_ | refine zw ?_ | refine zdt ?_ | refine zdf ?_ | refine znt ?_ | refine znf ?_ | refine zcd ?_ | refine zci ?_ | refine zc3 ?_) <;> (conv => whnf)))
  rw [hzr]
  subst hh2e
  refine SLoop.by (fun q fr st => ∃ (h3 lo : Heap) (b' : Int), LogG h3 g rj ((L ++ es).filter fun x => decide (b' < x.e.rev)) b' R ∧ base ≤ b' ∧ b' ≤ R ∧ q = ((L ++ es).filter fun x => decide (b' < x.e.rev)).length ∧ Heap.Keeps (fun n => n = g ∨ r = some n) h h3 ∧
      Fr.le [(0, .p (.g g) 0)] fr ∧ st = ⟨h3, lo⟩)
    (L ++ es).length ⟨_, _, base, ?_, Int.le_refl _, by omega, by rw [hfa], ?_, (by repeat (first | exact Fr.le_nil | refine Fr.le_cons rfl ?_)), rfl⟩ ?_
  · rw [hfa]; exact hl2
  · exact hk2
  clear hl2 hk2 hgb hle0 hR1
  rintro q fr st ⟨h3, lo, b', hl3, hb1, hb2, rfl, hk3, hle0, rfl⟩
  refine ⟨_, hle0, fun R1 hR1 => ?_⟩
  have hfl : ((L ++ es).filter fun x => decide (b' < x.e.rev)).length ≤ (L ++ es).length := List.length_filter_le _ _
  have hal : (L ++ es).length ≤ 2000 := by simp; omega
  have hfm : ∀ x ∈ (L ++ es).filter (fun x => decide (b' < x.e.rev)), b' < x.e.rev ∧ x.e.rev ≤ R := fun x hx => by
    obtain ⟨m1, m2⟩ := List.mem_filter.1 hx
    exact ⟨by simpa using m2, (hbd2 x m1).2⟩
  have hcutf := fun (c : Int) (hc : b' ≤ c) => filt_filt (A := L ++ es) hc
  have hfin := hK h3 rj b' hl3 hb1 hb2
  generalize hF : ((L ++ es).filter fun x => decide (b' < x.e.rev)) = F at *
  have hl3' := hl3
  obtain ⟨l1, ⟨l2, l3, l4⟩ | ⟨c, d, l2, l3, l4, l5, l6⟩⟩ := hl3'
  · ((conv => whnf); repeat ((first | refine SEx.of (l4) ?_ | refine yf rfl ?_ | refine yt rfl ?_ | refine yo rfl ?_ | refine yc rfl ?_ | refine ys rfl ?_ | refine ye rfl ?_ | refine yn rfl ?_ | refine zw ?_ | refine zdt ?_ | refine zdf ?_ | refine znt ?_ | refine znf ?_ | refine zcd ?_ | refine zci ?_ | refine zc3 ?_) <;> (conv => whnf)))
    exact hfin (by rw [l3]; decide) hrj hk3
  · by_cases h64 : F.length ≤ 64
    · ((conv => whnf); repeat ((first | refine SIf.df (show ¬ ((F.length : Nat) : Int) > 64 by omega) ?_ | refine SEx.of (l5) ?_ | refine yf rfl ?_ | refine yt rfl ?_ | refine yo rfl ?_ | refine yc rfl ?_ | refine ys rfl ?_ | refine ye rfl ?_ | refine yn rfl ?_ | refine zw ?_ | refine zdt ?_ | refine zdf ?_ | refine znt ?_ | refine znf ?_ | refine zcd ?_ | refine zci ?_ | refine zc3 ?_) <;> (conv => whnf)))
      exact hfin h64 hrj hk3
    · have hx := List.getElem?_eq_getElem (show 0 < F.length by omega)
      have hxm := hfm _ (List.getElem_mem (show 0 < F.length by omega))
      generalize F[0] = x at hx hxm
      have hcut := fun (K : V → Heap → Prop) hK => lcut_at (K := K) hG hl3 (by omega) x.e.rev hK
      have hcb : cutBase b' R x.e.rev = x.e.rev := by unfold cutBase; split <;> split at * <;> omega
      have hlt := filt_less hx
      have hff := hcutf x.e.rev (by omega)
      rw [hcb, hff] at hcut
      rw [hff] at hlt
      ((conv => whnf); repeat ((first | refine SIf.dt (show ((F.length : Nat) : Int) > 64 by omega) ?_ | refine SChk.ix (by omega) (by omega) ?_ | refine SChk.mk (decide_eq_true (by rw [ev_len]; omega)) ?_ | refine SCall.app (hcut _) ?_ | refine SEx.of (l5) ?_ | refine SEx.of (l6) ?_ | refine SEx.of (ev_get (d := d) (j := ((0 : Int)).toNat) rfl hx) ?_ | refine yf rfl ?_ | refine yt rfl ?_ | refine yo rfl ?_ | refine yc rfl ?_ | refine ys rfl ?_ | refine ye rfl ?_ | refine yn rfl ?_ | refine zw ?_ | refine zdt ?_ | refine zdf ?_ | refine znt ?_ | refine znf ?_ | refine zcd ?_ | refine zci ?_ | refine zc3 ?_) <;> (conv => whnf)))
      intro h4 hl4 hk4
      ((conv => whnf); repeat ((first | refine yf rfl ?_ | refine yt rfl ?_ | refine yo rfl ?_ | refine yc rfl ?_ | refine ys rfl ?_ | refine ye rfl ?_ | refine yn rfl ?_ | refine zw ?_ | refine zdt ?_ | refine zdf ?_ | refine znt ?_ | refine znf ?_ | refine zcd ?_ | refine zci ?_ | refine zc3 ?_) <;> (conv => whnf)))
      exact hR1 _ _ _ hlt ⟨h4, _, x.e.rev, hl4, by omega, by omega, rfl, hk3.comp hk4 (fun n hn e => by
        rcases e with e | e
        · exact .inl e
        · rcases hrj n e with e | e
          · exact .inr e
          · omega), (by repeat (first | exact Fr.le_nil | refine Fr.le_cons rfl ?_)), rfl⟩
end
end Go.Eng
