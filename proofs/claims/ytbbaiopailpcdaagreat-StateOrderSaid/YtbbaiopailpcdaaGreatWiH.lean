/-
StateOrder: who waits waits by priority, then by who was first.
-/
import Derived.Test.YtbbaiopailpcdaaGreatWiQ
import Derived.Test.YtbbaiopailpcdaaGreatWiF
set_option linter.unusedVariables false
set_option linter.unusedSimpArgs false
namespace Go.Eng
open Go
section
variable {P : Program} (hG : FnsOk P AF.fns.get)
include hG
set_option maxHeartbeats 16000000 in
set_option maxRecDepth 20000 in
theorem stateOrder_ok (hI : InsOk P 56) (hb : ACall P 8 [] noG (fun r _ => r = .b true)) (ps : List PodD) (hl : LenOk ps) (hps : GoodL ps) :
    ACall P 6 [.sl none 16 (ps.map podR)] noG (fun r _ => r = .b true) := by
  have hlm : (ps.map podR).length = ps.length := List.length_map _
  unfold LenOk at hl
  refine fn_sz (hG _ AF.f6 rfl) rfl ?_
  ((conv => whnf); repeat ((first | refine yf rfl ?_ | refine yt rfl ?_ | refine yo rfl ?_ | refine yc rfl ?_ | refine ys rfl ?_ | refine ye rfl ?_ | refine yn rfl ?_ | refine zw ?_ | refine zdt ?_ | refine zdf ?_ | refine znt ?_ | refine znf ?_ | refine zcd ?_ | refine zci ?_ | refine zc3 ?_) <;> (conv => whnf)))
  refine ⟨hb.frame rfl fun v h' hv => ?_⟩
  subst hv
  refine ⟨rfl, ?_⟩
  ((conv => whnf); repeat ((first | refine yf rfl ?_ | refine yt rfl ?_ | refine yo rfl ?_ | refine yc rfl ?_ | refine ys rfl ?_ | refine ye rfl ?_ | refine yn rfl ?_ | refine zw ?_ | refine zdt ?_ | refine zdf ?_ | refine znt ?_ | refine znf ?_ | refine zcd ?_ | refine zci ?_ | refine zc3 ?_) <;> (conv => whnf)))
  refine SLoopZ.by (fun q fr st => ∃ (i : Nat) (l : List PodD), i ≤ ps.length ∧ i ≤ 12 ∧ q = ps.length - i ∧ l.length ≤ i ∧ GoodL l ∧
      fr = [(5, .i .i64 i), (4, .p (.l 0) 0), (0, .sl none 16 (ps.map podR))] ∧ st = ⟨noG, ⟨1, [(0, .cs [.sl none 6 [], .sl none 16 (l.map podR)])]⟩⟩)
    ps.length ⟨_, _, ?_, 0, [], Nat.zero_le _, Nat.zero_le _, rfl, Nat.zero_le _, (fun _ h => by cases h), rfl, rfl⟩ ?_
  · exact tL [0]
  rintro q fr st ⟨i, l, hi, hi2, rfl, hil, hgood, rfl, rfl⟩ R hR
  have hlm2 : (l.map podR).length = l.length := List.length_map _
  by_cases hin : i < ps.length ∧ i < 12
  · obtain ⟨hi1, hi3⟩ := hin
    have he := List.getElem?_eq_getElem hi1
    have hm := hps _ (List.getElem_mem hi1)
    generalize ps[i] = e at he hm
    have hw := withL_ok hG hI hgood (by omega) hm
    ((conv => whnf); repeat ((first | refine SCall.app (Pure.go hw rfl) ?_ | refine SEx.of (map_get' (by omega) he) ?_ | refine yf rfl ?_ | refine yt rfl ?_ | refine yo rfl ?_ | refine yc rfl ?_ | refine ys rfl ?_ | refine ye rfl ?_ | refine yn rfl ?_ | refine zw ?_ | refine zdt ?_ | refine zdf ?_ | refine znt ?_ | refine znf ?_ | refine zcd ?_ | refine zci ?_ | refine zc3 ?_) <;> (conv => whnf)))
    refine hR (ps.length - (i + 1)) _ _ (by omega) ⟨_, _, ?_, i + 1, putL l e, by omega, by omega, rfl, by have := (putL_len l e).1; omega, hgood.put hm, rfl, rfl⟩
    exact tL [0]
  clear hR
  have hpend := pending_ok hG ⟨[], l⟩ (hgood.ok (by omega)) (fun q hq => (hgood q hq).2) (by show l.length ≤ 19; omega)
  obtain ⟨w, hw⟩ : ∃ w, w = pendL l := ⟨_, rfl⟩
  have hpe : pendL (⟨[], l⟩ : StD).pods = w := hw.symm
  rw [hpe] at hpend
  have hsort : w.Pairwise FirstP := hw ▸ pendL_sorted l
  have hnode : ∀ q ∈ w, (q.node == []) = true := fun q hq => pendL_node (l := l) (hw ▸ hq)
  have hwlen : w.length = (l.filter fun q => q.node == []).length := by rw [hw]; exact (pendL_perm l).length_eq
  have hwl : w.length ≤ l.length := by rw [hwlen]; exact List.length_filter_le _ _
  have hlm3 : (w.map podR).length = w.length := List.length_map _
  have h12 : ¬ i < ps.length ∨ (i < ps.length ∧ ¬ i < 12) := by omega
  rcases h12 with h1 | ⟨h1, h2⟩
  all_goals (((conv => whnf); repeat ((first | refine SCall.app (Pure.go hpend rfl) ?_ | refine yf rfl ?_ | refine yt rfl ?_ | refine yo rfl ?_ | refine yc rfl ?_ | refine ys rfl ?_ | refine ye rfl ?_ | refine yn rfl ?_ | refine zw ?_ | refine zdt ?_ | refine zdf ?_ | refine znt ?_ | refine znf ?_ | refine zcd ?_ | refine zci ?_ | refine zc3 ?_) <;> (conv => whnf))))
  all_goals (
    refine SLoopZ.by (fun q fr st => ∃ m : Nat, m ≤ l.length ∧ q = l.length - m ∧
        fr = [(35, .i .i64 m), (34, .i .i64 (l.map podR).length), (7, .i .i64 ((l.take m).filter fun q => q.node == []).length), (6, .sl none 16 (w.map podR)), (4, .p (.l 0) 0)] ∧
        st = ⟨noG, ⟨1, [(0, .cs [.sl none 6 [], .sl none 16 (l.map podR)])]⟩⟩)
      l.length ⟨_, _, ?_, 0, Nat.zero_le _, rfl, rfl, rfl⟩ ?_)
  all_goals first | (exact tL [0]) | skip
  all_goals (
    rintro q fr st ⟨m, hm, rfl, rfl, rfl⟩ R hR
    obtain ⟨c, hc⟩ : ∃ c, c = ((l.take m).filter fun q => q.node == []).length := ⟨_, rfl⟩
    rw [← hc]
    have hcm : c ≤ m := by
      rw [hc]
      exact Nat.le_trans (List.length_filter_le _ _) (List.length_take_le _ _)
    by_cases hml : m < l.length
    · have he := List.getElem?_eq_getElem hml
      generalize l[m] = e at he
      have h1 : (e.node == ([] : Str)) = true → ((l.take (m + 1)).filter fun q => q.node == []).length = c + 1 := fun h => by
        rw [take_succ' he, List.filter_append, List.length_append, ← hc]
        have : [e].filter (fun q => q.node == []) = [e] := by simp only [List.filter_cons, h, if_true, List.filter_nil]
        rw [this]; rfl
      have h0 : (e.node == ([] : Str)) = false → ((l.take (m + 1)).filter fun q => q.node == []).length = c := fun h => by
        rw [take_succ' he, List.filter_append, List.length_append, ← hc]
        have : [e].filter (fun q => q.node == []) = [] := by simp only [List.filter_cons, h, List.filter_nil]; rfl
        rw [this]; rfl
      cases hce : (e.node == ([] : Str))
      · ((conv => whnf); repeat ((first | refine SIf.ff hce ?_ | refine SEx.of (map_get' (by omega) he) ?_ | refine yf rfl ?_ | refine yt rfl ?_ | refine yo rfl ?_ | refine yc rfl ?_ | refine ys rfl ?_ | refine ye rfl ?_ | refine yn rfl ?_ | refine zw ?_ | refine zdt ?_ | refine zdf ?_ | refine znt ?_ | refine znf ?_ | refine zcd ?_ | refine zci ?_ | refine zc3 ?_) <;> (conv => whnf)))
        refine hR (l.length - (m + 1)) _ _ (by omega) ⟨_, _, ?_, m + 1, by omega, rfl, rfl, rfl⟩
        rw [h0 hce]
        exact tL [0]
      · ((conv => whnf); repeat ((first | refine SIf.tt hce ?_ | refine SEx.of (map_get' (by omega) he) ?_ | refine yf rfl ?_ | refine yt rfl ?_ | refine yo rfl ?_ | refine yc rfl ?_ | refine ys rfl ?_ | refine ye rfl ?_ | refine yn rfl ?_ | refine zw ?_ | refine zdt ?_ | refine zdf ?_ | refine znt ?_ | refine znf ?_ | refine zcd ?_ | refine zci ?_ | refine zc3 ?_) <;> (conv => whnf)))
        refine hR (l.length - (m + 1)) _ _ (by omega) ⟨_, _, ?_, m + 1, by omega, rfl, rfl, rfl⟩
        rw [h1 hce]
        exact tL [0]
    · clear hR
      have hcw : c = w.length := by rw [hc, List.take_of_length_le (by omega), hwlen]
      ((conv => whnf); repeat ((first | refine yf rfl ?_ | refine yt rfl ?_ | refine yo rfl ?_ | refine yc rfl ?_ | refine ys rfl ?_ | refine ye rfl ?_ | refine yn rfl ?_ | refine zw ?_ | refine zdt ?_ | refine zdf ?_ | refine znt ?_ | refine znf ?_ | refine zcd ?_ | refine zci ?_ | refine zc3 ?_) <;> (conv => whnf)))
      refine SLoopZ.by (fun q fr st => ∃ j : Nat, j ≤ w.length ∧ q = w.length - j ∧
          fr = [(50, .i .i64 j), (49, .i .i64 (w.map podR).length), (7, .i .i64 c), (6, .sl none 16 (w.map podR))] ∧ st = gst noG)
        w.length ⟨_, _, ?_, 0, Nat.zero_le _, rfl, rfl, rfl⟩ ?_
      · exact tL0
      rintro q fr st ⟨j, hj, rfl, rfl, rfl⟩ R hR
      by_cases hjw : j < w.length
      · have hy := List.getElem?_eq_getElem hjw
        have hym := List.getElem_mem hjw
        generalize w[j] = y at hy hym
        have hn := hnode y hym
        have hn' : (!(y.node == ([] : Str))) = false := by rw [hn]; rfl
        by_cases hj0 : j = 0
        · subst hj0
          ((conv => whnf); repeat ((first | refine SIf.ff hn' ?_ | refine SEx.of (map_get' (by omega) hy) ?_ | refine yf rfl ?_ | refine yt rfl ?_ | refine yo rfl ?_ | refine yc rfl ?_ | refine ys rfl ?_ | refine ye rfl ?_ | refine yn rfl ?_ | refine zw ?_ | refine zdt ?_ | refine zdf ?_ | refine znt ?_ | refine znf ?_ | refine zcd ?_ | refine zci ?_ | refine zc3 ?_) <;> (conv => whnf)))
          refine hR (w.length - 1) _ _ (by omega) ⟨_, _, ?_, 1, by omega, rfl, rfl, rfl⟩
          exact tL0
        · have hx := List.getElem?_eq_getElem (show j - 1 < w.length by omega)
          generalize w[j - 1]'(by omega) = x at hx
          have hxy := pair_get hsort (by omega : j - 1 < j) hx hy
          rcases hxy with hp | ⟨hp, hu⟩
          · have e1 : decide (x.prio < y.prio) = false := decide_eq_false (by omega)
            have e2 : decide (x.prio = y.prio) = false := decide_eq_false (by omega)
            ((conv => whnf); repeat ((first | refine SIf.ff hn' ?_ | refine SIf.ff e1 ?_ | refine SIf.ff e2 ?_ | refine SEx.of (map_get' (by omega) hx) ?_ | refine SEx.of (map_get' (by omega) hy) ?_ | refine yf rfl ?_ | refine yt rfl ?_ | refine yo rfl ?_ | refine yc rfl ?_ | refine ys rfl ?_ | refine ye rfl ?_ | refine yn rfl ?_ | refine zw ?_ | refine zdt ?_ | refine zdf ?_ | refine znt ?_ | refine znf ?_ | refine zcd ?_ | refine zci ?_ | refine zc3 ?_) <;> (conv => whnf)))
            refine hR (w.length - (j + 1)) _ _ (by omega) ⟨_, _, ?_, j + 1, by omega, rfl, rfl, rfl⟩
            exact tL0
          · have e1 : decide (x.prio < y.prio) = false := decide_eq_false (by omega)
            have e2 : decide (x.prio = y.prio) = true := decide_eq_true (by omega)
            have e3 : decide (y.uid < x.uid) = false := decide_eq_false (by omega)
            ((conv => whnf); repeat ((first | refine SIf.ff hn' ?_ | refine SIf.ff e1 ?_ | refine SIf.tt e2 ?_ | refine SIf.ff e3 ?_ | refine SEx.of (map_get' (by omega) hx) ?_ | refine SEx.of (map_get' (by omega) hy) ?_ | refine yf rfl ?_ | refine yt rfl ?_ | refine yo rfl ?_ | refine yc rfl ?_ | refine ys rfl ?_ | refine ye rfl ?_ | refine yn rfl ?_ | refine zw ?_ | refine zdt ?_ | refine zdf ?_ | refine znt ?_ | refine znf ?_ | refine zcd ?_ | refine zci ?_ | refine zc3 ?_) <;> (conv => whnf)))
            refine hR (w.length - (j + 1)) _ _ (by omega) ⟨_, _, ?_, j + 1, by omega, rfl, rfl, rfl⟩
            exact tL0
      · clear hR
        ((conv => whnf); repeat ((first | refine yf rfl ?_ | refine yt rfl ?_ | refine yo rfl ?_ | refine yc rfl ?_ | refine ys rfl ?_ | refine ye rfl ?_ | refine yn rfl ?_ | refine zw ?_ | refine zdt ?_ | refine zdf ?_ | refine znt ?_ | refine znf ?_ | refine zcd ?_ | refine zci ?_ | refine zc3 ?_) <;> (conv => whnf)))
        exact congrArg V.b (decide_eq_true (by omega)))
end
end Go.Eng
