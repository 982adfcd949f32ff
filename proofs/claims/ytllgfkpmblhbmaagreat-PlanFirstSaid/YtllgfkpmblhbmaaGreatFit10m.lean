/-
What may be, by the document: amounts, pairs.
-/
import Derived.Test.YtllgfkpmblhbmaaGreatFit10p
set_option linter.unusedVariables false
set_option linter.unusedSimpArgs false
namespace Go.Eng
open Go
/-- Amounts that may be. -/
structure ResMay (r : ResD) : Prop where
  a : 0 ≤ r.a ∧ r.a ≤ 1000000000
  b : 0 ≤ r.b ∧ r.b ≤ 1000000000
  c : 0 ≤ r.c ∧ r.c ≤ 1000000000
section
variable {P : Program} (hG : FnsOk P AF.fns.get)
include hG
theorem rmay_ok (r : ResD) : Pure P 89 [resV r] (TellsB (ResMay r)) := by
  refine pure_fn (hG _ AF.f89 rfl) rfl ?_
  ((conv => whnf); repeat' ((first | refine yf rfl ?_ | refine yt rfl ?_ | refine yo rfl ?_ | refine yc rfl ?_ | refine ys rfl ?_ | refine ye rfl ?_ | refine yn rfl ?_ | refine zw ?_ | refine zdt ?_ | refine zdf ?_ | refine znt ?_ | refine znf ?_ | refine zcd ?_ | refine zci ?_ | refine zc3 ?_ | refine SLoopZ.un rfl ?_ | refine SIf.ds (fun _ => ?_) (fun _ => ?_) | refine SIf.ns (fun _ => ?_) (fun _ => ?_) | refine SIf.mk (fun _ => ?_) (fun _ => ?_) | (intro r hr; cases r)) <;> (conv => whnf)))
  all_goals exact pure_free rfl ⟨_, rfl, fun h => by first | (cases h; done) | exact ⟨by omega, by omega, by omega⟩⟩
set_option maxHeartbeats 2000000 in
theorem rpairs_ok (l : List PairD) (hl : LenOk l) (hs : ∀ x ∈ l, x.sok) : Pure P 90 [.sl none 2 (l.map pairR)] (TellsB (l.length ≤ 6)) := by
  have hlm : (l.map pairR).length = l.length := List.length_map _
  unfold LenOk at hl
  refine pure_fn (hG _ AF.f90 rfl) rfl ?_
  ((conv => whnf); repeat ((first | refine yf rfl ?_ | refine yt rfl ?_ | refine yo rfl ?_ | refine yc rfl ?_ | refine ys rfl ?_ | refine ye rfl ?_ | refine yn rfl ?_ | refine zw ?_ | refine zdt ?_ | refine zdf ?_ | refine znt ?_ | refine znf ?_ | refine zcd ?_ | refine zci ?_ | refine zc3 ?_) <;> (conv => whnf)))
  refine SLoopZ.by (fun q fr st => ∃ i : Nat, i ≤ l.length ∧ q = l.length - i ∧ fr = [(6, .i .i64 i), (5, .i .i64 (l.map pairR).length), (0, .sl none 2 (l.map pairR))] ∧ st = gst noG)
    l.length ⟨_, _, ?_, 0, Nat.zero_le _, rfl, rfl, rfl⟩ ?_
  · exact tL0
  rintro q fr st ⟨i, hi, rfl, rfl, rfl⟩ R hR
  (conv => whnf)
  refine SIf.ds (fun hlt => ?_) (fun hge => ?_)
  · have hi' : i < l.length := by omega
    have he := List.getElem?_eq_getElem hi'
    have hm := hs _ (List.getElem_mem hi')
    generalize l[i] = e at he hm
    rcases Nat.eq_zero_or_pos i with h0 | h0
    · ((conv => whnf); repeat' ((first | refine SCall.app (Pure.any (rname_ok hG _ hm.1) rfl) ?_ | refine SCall.app (Pure.any (rname_ok hG _ hm.2) rfl) ?_ | refine SEx.of (map_get' (by simp) he) ?_ | refine yf rfl ?_ | refine yt rfl ?_ | refine yo rfl ?_ | refine yc rfl ?_ | refine ys rfl ?_ | refine ye rfl ?_ | refine yn rfl ?_ | refine zw ?_ | refine zdt ?_ | refine zdf ?_ | refine znt ?_ | refine znf ?_ | refine zcd ?_ | refine zci ?_ | refine zc3 ?_ | refine SIf.ds (fun _ => ?_) (fun _ => ?_) | refine SIf.ns (fun _ => ?_) (fun _ => ?_) | refine SIf.mk (fun _ => ?_) (fun _ => ?_) | (intro r hr; cases r)) <;> (conv => whnf)))
      all_goals first
        | exact pure_free rfl ⟨false, rfl, fun h => by cases h⟩
        | (refine hR (l.length - (i + 1)) _ _ (by omega) ⟨_, _, ?_, i + 1, by omega, rfl, rfl, rfl⟩; exact tL0)
    · have hi2 : i - 1 < l.length := by omega
      have hf := List.getElem?_eq_getElem hi2
      generalize l[i - 1] = f at hf
      ((conv => whnf); repeat' ((first | refine SCall.app (Pure.any (rname_ok hG _ hm.1) rfl) ?_ | refine SCall.app (Pure.any (rname_ok hG _ hm.2) rfl) ?_ | refine SEx.of (map_get' (by omega) he) ?_ | refine SEx.of (map_get' (by omega) hf) ?_ | refine yf rfl ?_ | refine yt rfl ?_ | refine yo rfl ?_ | refine yc rfl ?_ | refine ys rfl ?_ | refine ye rfl ?_ | refine yn rfl ?_ | refine zw ?_ | refine zdt ?_ | refine zdf ?_ | refine znt ?_ | refine znf ?_ | refine zcd ?_ | refine zci ?_ | refine zc3 ?_ | refine SIf.ds (fun _ => ?_) (fun _ => ?_) | refine SIf.ns (fun _ => ?_) (fun _ => ?_) | refine SIf.mk (fun _ => ?_) (fun _ => ?_) | (intro r hr; cases r)) <;> (conv => whnf)))
      all_goals first
        | exact pure_free rfl ⟨false, rfl, fun h => by cases h⟩
        | (refine hR (l.length - (i + 1)) _ _ (by omega) ⟨_, _, ?_, i + 1, by omega, rfl, rfl, rfl⟩; exact tL0)
  · ((conv => whnf); repeat' ((first | refine yf rfl ?_ | refine yt rfl ?_ | refine yo rfl ?_ | refine yc rfl ?_ | refine ys rfl ?_ | refine ye rfl ?_ | refine yn rfl ?_ | refine zw ?_ | refine zdt ?_ | refine zdf ?_ | refine znt ?_ | refine znf ?_ | refine zcd ?_ | refine zci ?_ | refine zc3 ?_ | refine SIf.ds (fun _ => ?_) (fun _ => ?_) | refine SIf.ns (fun _ => ?_) (fun _ => ?_) | refine SIf.mk (fun _ => ?_) (fun _ => ?_) | (intro r hr; cases r)) <;> (conv => whnf)))
    all_goals exact pure_free rfl ⟨_, rfl, fun h => by simp at h; omega⟩
end
end Go.Eng
