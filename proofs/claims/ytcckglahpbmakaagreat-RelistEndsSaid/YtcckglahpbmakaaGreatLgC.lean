/-
The log: the events behind a revision.
-/
import Derived.Test.YtcckglahpbmakaaGreatLgB
set_option linter.unusedVariables false
set_option linter.unusedSimpArgs false
namespace Go.Eng
open Go
def EvsV (lv : V) (L : List EvD) : Prop := (lv = .nils ∧ L = []) ∨ lv = .sl none 4 (L.map evR)
theorem filt_take {A : List EvD} {j : Nat} {x : EvD} (h : A[j]? = some x) (b : Int) : (A.take (j + 1)).filter (fun y => decide (b < y.e.rev)) = (A.take j).filter (fun y => decide (b < y.e.rev)) ++ (if b < x.e.rev then [x] else []) := by
  rw [List.take_add_one, h, List.filter_append]
  by_cases c : b < x.e.rev <;> simp [c]
section
variable {P : Program} (hG : FnsOk P AF.fns.get)
include hG
set_option maxHeartbeats 8000000 in
theorem lfrom_at {h : Heap} {g : Nat} {r : Option Nat} {L : List EvD} {base last : Int} (hl : LogG h g r L base last) (hok : ∀ x ∈ L, EnOk x.e) (hn : L.length ≤ 1000) (rev : Int) {K : V → Heap → Prop}
    (hc : rev < base → K (.tup [.nils, .i .i64 7]) h) (hr : base ≤ rev → last < rev → K (.tup [.nils, .i .i64 2]) h)
    (hK : base ≤ rev → rev ≤ last → ∀ lv, EvsV lv (L.filter fun x => decide (rev < x.e.rev)) → K (.tup [lv, .i .i64 0]) h) :
    ACall P 107 [.p (.g g) 0, .i .i64 rev] h K := by
  obtain ⟨l1, ⟨l2, l3, l4⟩ | ⟨c, d, l2, l3, l4, l5, l6⟩⟩ := hl
  · subst l3
    refine fn_sv (hG _ AF.f107 rfl) rfl ?_
    by_cases c1 : rev < base
    · ((conv => whnf); repeat ((first | refine SIf.dt c1 ?_ | refine SEx.of (l4) ?_ | refine yf rfl ?_ | refine yt rfl ?_ | refine yo rfl ?_ | refine yc rfl ?_ | refine ys rfl ?_ | refine ye rfl ?_ | refine yn rfl ?_ | refine zw ?_ | refine zdt ?_ | refine zdf ?_ | refine znt ?_ | refine znf ?_ | refine zcd ?_ | refine zci ?_ | refine zc3 ?_) <;> (conv => whnf)))
      exact hc c1
    by_cases c2 : rev > last
    · ((conv => whnf); repeat ((first | refine SIf.df c1 ?_ | refine SIf.dt c2 ?_ | refine SEx.of (l4) ?_ | refine yf rfl ?_ | refine yt rfl ?_ | refine yo rfl ?_ | refine yc rfl ?_ | refine ys rfl ?_ | refine ye rfl ?_ | refine yn rfl ?_ | refine zw ?_ | refine zdt ?_ | refine zdf ?_ | refine znt ?_ | refine znf ?_ | refine zcd ?_ | refine zci ?_ | refine zc3 ?_) <;> (conv => whnf)))
      exact hr (by omega) c2
    ((conv => whnf); repeat ((first | refine SIf.df c1 ?_ | refine SIf.df c2 ?_ | refine SLoopV.un rfl ?_ | refine SEx.of (l4) ?_ | refine yf rfl ?_ | refine yt rfl ?_ | refine yo rfl ?_ | refine yc rfl ?_ | refine ys rfl ?_ | refine ye rfl ?_ | refine yn rfl ?_ | refine zw ?_ | refine zdt ?_ | refine zdf ?_ | refine znt ?_ | refine znf ?_ | refine zcd ?_ | refine zci ?_ | refine zc3 ?_) <;> (conv => whnf)))
    exact hK (by omega) (by omega) _ (.inl ⟨rfl, rfl⟩)
  · refine fn_sv (hG _ AF.f107 rfl) rfl ?_
    by_cases c1 : rev < base
    · ((conv => whnf); repeat ((first | refine SIf.dt c1 ?_ | refine SEx.of (l5) ?_ | refine yf rfl ?_ | refine yt rfl ?_ | refine yo rfl ?_ | refine yc rfl ?_ | refine ys rfl ?_ | refine ye rfl ?_ | refine yn rfl ?_ | refine zw ?_ | refine zdt ?_ | refine zdf ?_ | refine znt ?_ | refine znf ?_ | refine zcd ?_ | refine zci ?_ | refine zc3 ?_) <;> (conv => whnf)))
      exact hc c1
    by_cases c2 : rev > last
    · ((conv => whnf); repeat ((first | refine SIf.df c1 ?_ | refine SIf.dt c2 ?_ | refine SEx.of (l5) ?_ | refine yf rfl ?_ | refine yt rfl ?_ | refine yo rfl ?_ | refine yc rfl ?_ | refine ys rfl ?_ | refine ye rfl ?_ | refine yn rfl ?_ | refine zw ?_ | refine zdt ?_ | refine zdf ?_ | refine znt ?_ | refine znf ?_ | refine zcd ?_ | refine zci ?_ | refine zc3 ?_) <;> (conv => whnf)))
      exact hr (by omega) c2
    ((conv => whnf); repeat ((first | refine SIf.df c1 ?_ | refine SIf.df c2 ?_ | refine SEx.of (l5) ?_ | refine yf rfl ?_ | refine yt rfl ?_ | refine yo rfl ?_ | refine yc rfl ?_ | refine ys rfl ?_ | refine ye rfl ?_ | refine yn rfl ?_ | refine zw ?_ | refine zdt ?_ | refine zdf ?_ | refine znt ?_ | refine znf ?_ | refine zcd ?_ | refine zci ?_ | refine zc3 ?_) <;> (conv => whnf)))
    refine SLoopV.by (fun q fr st => ∃ (i : Nat) (lo : Heap) (lv : V), i ≤ L.length ∧ q = L.length - i ∧ ((lv = .nils ∧ (L.take i).filter (fun x => decide (rev < x.e.rev)) = []) ∨ (0 < ((L.take i).filter fun x => decide (rev < x.e.rev)).length ∧ ∃ t, lv = .sl (some (.l t)) 4 (((L.take i).filter fun x => decide (rev < x.e.rev)).map evR) ∧ t < lo.next ∧ lo.get t = some .spare)) ∧
        Fr.le [(31, .i .i64 i), (30, .i .i64 L.length), (29, .ms (.g c) 4 0 L.length), (6, lv), (1, .i .i64 rev)] fr ∧ st = ⟨h, lo⟩)
      L.length ⟨0, _, .nils, Nat.zero_le _, rfl, .inl ⟨rfl, rfl⟩, (by repeat (first | exact Fr.le_nil | refine Fr.le_cons rfl ?_)), rfl⟩ ?_
    rintro q fr st ⟨i, lo, lv, hi, rfl, hlv, hle0, rfl⟩
    refine ⟨_, hle0, fun R hR => ?_⟩
    by_cases hin : i < L.length
    · have he := List.getElem?_eq_getElem hin
      have hxo := hok _ (List.getElem_mem hin)
      generalize L[i] = x at he hxo
      have hcop := lcop_ok hG x hxo
      have htk := filt_take he rev
      have hfl : ((L.take i).filter fun x => decide (rev < x.e.rev)).length ≤ 1000 := Nat.le_trans (List.length_filter_le _ _) (by simp; omega)
      generalize hA : (L.take i).filter (fun x => decide (rev < x.e.rev)) = A at *
      have a1 : ∀ o, (lo.push o).get lo.next = some o := fun o => Heap.get_push_self _ _
      have a2 : ∀ o o2, ((lo.push o).set lo.next o2).get lo.next = some o2 := fun o o2 => Heap.get_set_self (a1 _)
      by_cases cx : rev < x.e.rev
      · rw [if_pos cx] at htk
        rcases hlv with ⟨rfl, rfl⟩ | ⟨h6, t, rfl, h7, h8⟩
        · ((conv => whnf); repeat ((first | refine SIf.dt (show (i : Int) < (L.length : Nat) by omega) ?_ | refine SChk.ix (by omega) (by omega) ?_ | refine SChk.mk (decide_eq_true (by rw [ev_len]; omega)) ?_ | refine SIf.dt (show x.e.rev > rev from cx) ?_ | refine SCall.app (Pure.go hcop rfl) ?_ | refine SWrap.w64 (by omega) (by omega) ?_ | refine SEx.of (l6) ?_ | refine SEx.of (ev_get (d := d) (j := ((i : Nat) : Int).toNat) (by omega) he) ?_ | refine SEx.of (a2 _ _) ?_ | refine SEx.of (a1 _) ?_ | refine yf rfl ?_ | refine yt rfl ?_ | refine yo rfl ?_ | refine yc rfl ?_ | refine ys rfl ?_ | refine ye rfl ?_ | refine yn rfl ?_ | refine zw ?_ | refine zdt ?_ | refine zdf ?_ | refine znt ?_ | refine znf ?_ | refine zcd ?_ | refine zci ?_ | refine zc3 ?_) <;> (conv => whnf)))
          refine hR (L.length - (i + 1)) _ _ (by omega) ⟨i + 1, _, .sl (some (.l (lo.next + 1 + 1))) 4 [evR x], by omega, rfl, ?_, (by repeat (first | exact Fr.le_nil | refine Fr.le_cons rfl ?_)), rfl⟩
          rw [htk]
          exact .inr ⟨by simp, lo.next + 1 + 1, rfl, Nat.lt_succ_self _, Heap.get_push_self _ _⟩
        · have p0 : ∀ o o2, (((lo.push o).set lo.next o2).push .spare).get t = some .spare := fun o o2 => Heap.gp (by show t ≠ lo.next + 1; omega) (Heap.gs (by omega) (Heap.gp (by omega) h8))
          ((conv => whnf); repeat ((first | refine SIf.dt (show (i : Int) < (L.length : Nat) by omega) ?_ | refine SChk.ix (by omega) (by omega) ?_ | refine SChk.mk (decide_eq_true (by rw [ev_len]; omega)) ?_ | refine SIf.dt (show x.e.rev > rev from cx) ?_ | refine SCall.app (Pure.go hcop rfl) ?_ | refine SWrap.w64 (by omega) (by omega) ?_ | refine SChk.mk (by simp [roomOk] at hfl ⊢; omega) ?_ | refine SEx.of (l6) ?_ | refine SEx.of (ev_get (d := d) (j := ((i : Nat) : Int).toNat) (by omega) he) ?_ | refine SEx.of (a2 _ _) ?_ | refine SEx.of (a1 _) ?_ | refine SEx.of (p0 _ _) ?_ | refine yf rfl ?_ | refine yt rfl ?_ | refine yo rfl ?_ | refine yc rfl ?_ | refine ys rfl ?_ | refine ye rfl ?_ | refine yn rfl ?_ | refine zw ?_ | refine zdt ?_ | refine zdf ?_ | refine znt ?_ | refine znf ?_ | refine zcd ?_ | refine zci ?_ | refine zc3 ?_) <;> (conv => whnf)))
          refine hR (L.length - (i + 1)) _ _ (by omega) ⟨i + 1, _, .sl (some (.l (lo.next + 1 + 1))) 4 (A.map evR ++ [evR x]), by omega, rfl, ?_, (by repeat (first | exact Fr.le_nil | refine Fr.le_cons rfl ?_)), rfl⟩
          rw [htk]
          exact .inr ⟨by simp, lo.next + 1 + 1, by simp, Nat.lt_succ_self _, Heap.get_push_self _ _⟩
      · rw [if_neg cx, List.append_nil] at htk
        ((conv => whnf); repeat ((first | refine SIf.dt (show (i : Int) < (L.length : Nat) by omega) ?_ | refine SChk.ix (by omega) (by omega) ?_ | refine SChk.mk (decide_eq_true (by rw [ev_len]; omega)) ?_ | refine SIf.df (show ¬ x.e.rev > rev from cx) ?_ | refine SWrap.w64 (by omega) (by omega) ?_ | refine SEx.of (l6) ?_ | refine SEx.of (ev_get (d := d) (j := ((i : Nat) : Int).toNat) (by omega) he) ?_ | refine SEx.of (a2 _ _) ?_ | refine SEx.of (a1 _) ?_ | refine yf rfl ?_ | refine yt rfl ?_ | refine yo rfl ?_ | refine yc rfl ?_ | refine ys rfl ?_ | refine ye rfl ?_ | refine yn rfl ?_ | refine zw ?_ | refine zdt ?_ | refine zdf ?_ | refine znt ?_ | refine znf ?_ | refine zcd ?_ | refine zci ?_ | refine zc3 ?_) <;> (conv => whnf)))
        refine hR (L.length - (i + 1)) _ _ (by omega) ⟨i + 1, _, lv, by omega, rfl, ?_, (by repeat (first | exact Fr.le_nil | refine Fr.le_cons rfl ?_)), rfl⟩
        rw [htk]
        rcases hlv with ⟨rfl, rfl⟩ | ⟨h6, t, rfl, h7, h8⟩
        · exact .inl ⟨rfl, rfl⟩
        · exact .inr ⟨h6, t, rfl, (by show t < lo.next + 1; omega), Heap.gs (by omega) (Heap.gp (by omega) h8)⟩
    · obtain rfl : i = L.length := by omega
      rw [List.take_length] at hlv
      rcases hlv with ⟨rfl, h6⟩ | ⟨h6, t, rfl, h7, h8⟩
      · ((conv => whnf); repeat ((first | refine SIf.df (show ¬ ((L.length : Nat) : Int) < (L.length : Nat) by omega) ?_ | refine yf rfl ?_ | refine yt rfl ?_ | refine yo rfl ?_ | refine yc rfl ?_ | refine ys rfl ?_ | refine ye rfl ?_ | refine yn rfl ?_ | refine zw ?_ | refine zdt ?_ | refine zdf ?_ | refine znt ?_ | refine znf ?_ | refine zcd ?_ | refine zci ?_ | refine zc3 ?_) <;> (conv => whnf)))
        exact hK (by omega) (by omega) _ (.inl ⟨rfl, h6⟩)
      · ((conv => whnf); repeat ((first | refine SIf.df (show ¬ ((L.length : Nat) : Int) < (L.length : Nat) by omega) ?_ | refine yf rfl ?_ | refine yt rfl ?_ | refine yo rfl ?_ | refine yc rfl ?_ | refine ys rfl ?_ | refine ye rfl ?_ | refine yn rfl ?_ | refine zw ?_ | refine zdt ?_ | refine zdf ?_ | refine znt ?_ | refine znf ?_ | refine zcd ?_ | refine zci ?_ | refine zc3 ?_) <;> (conv => whnf)))
        exact hK (by omega) (by omega) _ (.inr rfl)
end
end Go.Eng
