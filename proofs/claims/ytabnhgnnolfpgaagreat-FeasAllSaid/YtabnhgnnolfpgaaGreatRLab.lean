/-
Labels and terms, by the document.
-/
import Derived.Test.YtabnhgnnolfpgaaGreatFitA
namespace Go.Eng
open Go
section
variable {P : Program} (hG : FnsOk P AF.fns.get)
include hG
theorem rlabel_ok (l : List PairD) (key : Str) (hl : LenOk l) : Pure P 113 [.sl none 2 (l.map pairR), .s key] (· = .tup [.s (getD l key).1, .b (getD l key).2]) := by
  have hlm : (l.map pairR).length = l.length := List.length_map _
  unfold LenOk at hl
  refine pure_fn (hG _ AF.f113 rfl) rfl ?_
  ((conv => whnf); repeat ((first | refine yf rfl ?_ | refine yt rfl ?_ | refine yo rfl ?_ | refine yc rfl ?_ | refine ys rfl ?_ | refine ye rfl ?_ | refine yn rfl ?_ | refine zw ?_ | refine zdt ?_ | refine zdf ?_ | refine znt ?_ | refine znf ?_ | refine zcd ?_ | refine zci ?_ | refine zc3 ?_) <;> (conv => whnf)))
  refine SLoopZ.by (fun q fr st => ∃ i : Nat, i ≤ l.length ∧ q = l.length - i ∧ NoneYet (fun e => e.key == key) l i ∧ fr = [(9, .i .i64 i), (8, .i .i64 (l.map pairR).length), (1, .s key), (0, .sl none 2 (l.map pairR))] ∧ st = gst noG)
    l.length ⟨_, _, ?_, 0, Nat.zero_le _, rfl, NoneYet.zero, rfl, rfl⟩ ?_
  · exact tL0
  rintro q fr st ⟨i, hi, rfl, hok, rfl, rfl⟩ R hR
  (conv => whnf)
  refine SIf.ds (fun hlt => ?_) (fun hge => ?_)
  · have hi' : i < l.length := by omega
    have he := List.getElem?_eq_getElem hi'
    generalize l[i] = e at he
    ((conv => whnf); repeat ((first | refine SEx.of (map_get' (by omega) he) ?_ | refine yf rfl ?_ | refine yt rfl ?_ | refine yo rfl ?_ | refine yc rfl ?_ | refine ys rfl ?_ | refine ye rfl ?_ | refine yn rfl ?_ | refine zw ?_ | refine zdt ?_ | refine zdf ?_ | refine znt ?_ | refine znf ?_ | refine zcd ?_ | refine zci ?_ | refine zc3 ?_) <;> (conv => whnf)))
    refine SIf.mk (fun hp => ?_) (fun hp => ?_)
    · ((conv => whnf); repeat ((first | refine SEx.of (map_get' (by omega) he) ?_ | refine yf rfl ?_ | refine yt rfl ?_ | refine yo rfl ?_ | refine yc rfl ?_ | refine ys rfl ?_ | refine ye rfl ?_ | refine yn rfl ?_ | refine zw ?_ | refine zdt ?_ | refine zdf ?_ | refine znt ?_ | refine znf ?_ | refine zcd ?_ | refine zci ?_ | refine zc3 ?_) <;> (conv => whnf)))
      refine pure_free rfl ?_
      simp only [getD, find_some he hp hok]
    · ((conv => whnf); repeat ((first | refine yf rfl ?_ | refine yt rfl ?_ | refine yo rfl ?_ | refine yc rfl ?_ | refine ys rfl ?_ | refine ye rfl ?_ | refine yn rfl ?_ | refine zw ?_ | refine zdt ?_ | refine zdf ?_ | refine znt ?_ | refine znf ?_ | refine zcd ?_ | refine zci ?_ | refine zc3 ?_) <;> (conv => whnf)))
      refine hR (l.length - (i + 1)) _ _ (by omega) ⟨_, _, ?_, i + 1, by omega, rfl, hok.succ he hp, rfl, rfl⟩
      exact tL0
  · ((conv => whnf); repeat ((first | refine yf rfl ?_ | refine yt rfl ?_ | refine yo rfl ?_ | refine yc rfl ?_ | refine ys rfl ?_ | refine ye rfl ?_ | refine yn rfl ?_ | refine zw ?_ | refine zdt ?_ | refine zdf ?_ | refine znt ?_ | refine znf ?_ | refine zcd ?_ | refine zci ?_ | refine zc3 ?_) <;> (conv => whnf)))
    refine pure_free rfl ?_
    simp only [getD, find_none (hok.all (by omega))]
set_option maxHeartbeats 4000000 in
set_option maxRecDepth 10000 in
theorem rmatch_ok (ts : List TermD) (l : List PairD) (ht : TermsOk ts) (hl : LenOk l) : Pure P 67 [.sl none 3 (ts.map termR), .sl none 2 (l.map pairR)] (· = .b (ts.all fun t => holdsD t l)) := by
  have htm : (ts.map termR).length = ts.length := List.length_map _
  have htl := ht.len
  unfold LenOk at htl
  refine pure_fn (hG _ AF.f67 rfl) rfl ?_
  ((conv => whnf); repeat ((first | refine yf rfl ?_ | refine yt rfl ?_ | refine yo rfl ?_ | refine yc rfl ?_ | refine ys rfl ?_ | refine ye rfl ?_ | refine yn rfl ?_ | refine zw ?_ | refine zdt ?_ | refine zdf ?_ | refine znt ?_ | refine znf ?_ | refine zcd ?_ | refine zci ?_ | refine zc3 ?_) <;> (conv => whnf)))
  refine SLoopZ.by (fun q fr st => ∃ i : Nat, i ≤ ts.length ∧ q = ts.length - i ∧ NoneYet (fun t => !holdsD t l) ts i ∧
      fr = [(14, .i .i64 i), (13, .i .i64 (ts.map termR).length), (1, .sl none 2 (l.map pairR)), (0, .sl none 3 (ts.map termR))] ∧ st = gst noG)
    ts.length ⟨_, _, ?_, 0, Nat.zero_le _, rfl, NoneYet.zero, rfl, rfl⟩ ?_
  · exact tL0
  rintro q fr st ⟨i, hi, rfl, hok, rfl, rfl⟩ R hR
  (conv => whnf)
  refine SIf.ds (fun hlt => ?_) (fun hge => ?_)
  · have hi' : i < ts.length := by omega
    have he := List.getElem?_eq_getElem hi'
    have hm := ht.each _ (List.getElem_mem hi')
    generalize ts[i] = e at he hm
    have hvm : (e.vals.map strR).length = e.vals.length := List.length_map _
    unfold TermD.ok LenOk at hm
    have hgl := rlabel_ok hG l e.key hl
    obtain ⟨v, hv⟩ : ∃ v, v = getD l e.key := ⟨_, rfl⟩
    rw [← hv] at hgl
    obtain ⟨v1, v2⟩ := v
    have hh : holdsD e l = if e.kind = 1 then (v2 && e.vals.any fun x => v1 == x) else if e.kind = 2 then !(v2 && e.vals.any fun x => v1 == x) else if e.kind = 3 then v2 else if e.kind = 4 then !v2 else false := by
      simp only [holdsD, ← hv]
    ((conv => whnf); repeat ((first | refine SCall.app (Pure.go hgl rfl) ?_ | refine SEx.of (map_get' (by omega) he) ?_ | refine yf rfl ?_ | refine yt rfl ?_ | refine yo rfl ?_ | refine yc rfl ?_ | refine ys rfl ?_ | refine ye rfl ?_ | refine yn rfl ?_ | refine zw ?_ | refine zdt ?_ | refine zdf ?_ | refine znt ?_ | refine znf ?_ | refine zcd ?_ | refine zci ?_ | refine zc3 ?_) <;> (conv => whnf)))
    refine SLoopZ.by (fun q fr st => ∃ (j : Nat) (d : Bool), j ≤ e.vals.length ∧ q = e.vals.length - j ∧ d = (v2 && (e.vals.take j).any fun x => v1 == x) ∧
        fr = [(33, .i .i64 j), (32, .i .i64 (e.vals.map strR).length), (31, .sl none 1 (e.vals.map strR)), (8, .b d), (7, .b v2), (6, .s v1), (5, .i .i64 i), (14, .i .i64 i), (13, .i .i64 (ts.map termR).length), (1, .sl none 2 (l.map pairR)), (0, .sl none 3 (ts.map termR))] ∧ st = gst noG)
      e.vals.length ⟨_, _, ?_, 0, false, Nat.zero_le _, rfl, by simp, rfl, rfl⟩ ?_
    · exact tL0
    rintro q fr st ⟨j, d, hj, rfl, hd, rfl, rfl⟩ R2 hR2
    (conv => whnf)
    refine SIf.ds (fun hlt2 => ?_) (fun hge2 => ?_)
    · have hj' : j < e.vals.length := by omega
      have hf := List.getElem?_eq_getElem hj'
      generalize e.vals[j] = x at hf
      have hsw : (x == v1) = (v1 == x) := by
        by_cases h : x = v1
        · rw [h]
        · rw [beq_false_of_ne h, beq_false_of_ne (Ne.symm h)]
      have hst : (v2 && (e.vals.take (j + 1)).any fun x => v1 == x) = (d || (v2 && x == v1)) := by
        rw [take_succ' hf, List.any_append, hd, hsw]
        cases v2 <;> simp
      cases d <;> cases v2
      all_goals ((conv => whnf); repeat ((first | refine SEx.of (map_get' (by omega) hf) ?_ | refine yf rfl ?_ | refine yt rfl ?_ | refine yo rfl ?_ | refine yc rfl ?_ | refine ys rfl ?_ | refine ye rfl ?_ | refine yn rfl ?_ | refine zw ?_ | refine zdt ?_ | refine zdf ?_ | refine znt ?_ | refine znf ?_ | refine zcd ?_ | refine zci ?_ | refine zc3 ?_) <;> (conv => whnf)))
      all_goals
        refine hR2 (e.vals.length - (j + 1)) _ _ (by omega) ⟨_, _, ?_, j + 1, _, by omega, rfl, hst.symm, rfl, rfl⟩
        exact tL0
    · have hall : d = (v2 && e.vals.any fun x => v1 == x) := by rw [hd, List.take_of_length_le (by omega)]
      rw [← hall] at hh
      obtain ⟨c, hc⟩ : ∃ c, c = holdsD e l := ⟨_, rfl⟩
      rw [← hc] at hh
      cases c <;> cases d <;> cases v2
      all_goals ((conv => whnf); repeat' ((first | refine SEx.of (map_get' (by omega) he) ?_ | refine yf rfl ?_ | refine yt rfl ?_ | refine yo rfl ?_ | refine yc rfl ?_ | refine ys rfl ?_ | refine ye rfl ?_ | refine yn rfl ?_ | refine zw ?_ | refine zdt ?_ | refine zdf ?_ | refine znt ?_ | refine znf ?_ | refine zcd ?_ | refine zci ?_ | refine zc3 ?_ | refine SIf.ds (fun _ => ?_) (fun _ => ?_) | refine SIf.ns (fun _ => ?_) (fun _ => ?_) | refine SIf.mk (fun _ => ?_) (fun _ => ?_) | (intro r hr; cases r)) <;> (conv => whnf)))
      all_goals try (exfalso; clear hall hd hR2 hgl hv hok hR; revert hh; simp_all; done)
      all_goals first
        | (refine pure_free rfl ?_; simp only [List.all_eq_not_any_not]; rw [any_some he (by rw [← hc]; rfl)]; rfl)
        | (refine hR (ts.length - (i + 1)) _ _ (by omega) ⟨_, _, ?_, i + 1, by omega, rfl, hok.succ he (by rw [← hc]; rfl), rfl, rfl⟩; exact tL0)
  · ((conv => whnf); repeat ((first | refine yf rfl ?_ | refine yt rfl ?_ | refine yo rfl ?_ | refine yc rfl ?_ | refine ys rfl ?_ | refine ye rfl ?_ | refine yn rfl ?_ | refine zw ?_ | refine zdt ?_ | refine zdf ?_ | refine znt ?_ | refine znf ?_ | refine zcd ?_ | refine zci ?_ | refine zc3 ?_) <;> (conv => whnf)))
    refine pure_free rfl ?_
    simp only [List.all_eq_not_any_not]
    rw [any_none (hok.all (by omega))]
    rfl
end
end Go.Eng
