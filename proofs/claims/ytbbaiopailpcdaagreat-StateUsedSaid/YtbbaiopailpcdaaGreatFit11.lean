/-
What may be, by the document: terms, tolerations, pods.
-/
import Derived.Test.YtbbaiopailpcdaaGreatFit10m
import Derived.Test.YtbbaiopailpcdaaGreatFitD
set_option linter.unusedVariables false
set_option linter.unusedSimpArgs false
namespace Go.Eng
open Go
/-- Few terms of few values. -/
structure TermsMay (l : List TermD) : Prop where
  len : l.length ≤ 6
  each : ∀ t ∈ l, t.vals.length ≤ 6
structure PodMay (p : PodD) : Prop where
  ports : p.ports.length ≤ 6
  labels : p.labels.length ≤ 6
  sel : TermsMay p.sel
  tols : p.tols.length ≤ 6
  anti : TermsMay p.anti
  even : TermsMay p.even
  req : ResMay p.req
section
variable {P : Program} (hG : FnsOk P AF.fns.get)
include hG
set_option maxHeartbeats 4000000 in
theorem rtols_ok (l : List TolD) (hl : LenOk l) (hs : ∀ x ∈ l, x.sok) : Pure P 71 [.sl none 3 (l.map tolR)] (TellsB (l.length ≤ 6)) := by
  have hlm : (l.map tolR).length = l.length := List.length_map _
  unfold LenOk at hl
  refine pure_fn (hG _ AF.f71 rfl) rfl ?_
  ((conv => whnf); repeat ((first | refine yf rfl ?_ | refine yt rfl ?_ | refine yo rfl ?_ | refine yc rfl ?_ | refine ys rfl ?_ | refine ye rfl ?_ | refine yn rfl ?_ | refine zw ?_ | refine zdt ?_ | refine zdf ?_ | refine znt ?_ | refine znf ?_ | refine zcd ?_ | refine zci ?_ | refine zc3 ?_) <;> (conv => whnf)))
  refine SLoopZ.by (fun q fr st => ∃ i : Nat, i ≤ l.length ∧ q = l.length - i ∧ fr = [(7, .i .i64 i), (6, .i .i64 (l.map tolR).length), (0, .sl none 3 (l.map tolR))] ∧ st = gst noG)
    l.length ⟨_, _, ?_, 0, Nat.zero_le _, rfl, rfl, rfl⟩ ?_
  · exact tL0
  rintro q fr st ⟨i, hi, rfl, rfl, rfl⟩ R hR
  (conv => whnf)
  refine SIf.ds (fun hlt => ?_) (fun hge => ?_)
  · have hi' : i < l.length := by omega
    have he := List.getElem?_eq_getElem hi'
    have hm := hs _ (List.getElem_mem hi')
    generalize l[i] = e at he hm
    ((conv => whnf); repeat' ((first | refine SCall.app (Pure.any (rname_ok hG e.key hm.1) rfl) ?_ | refine SCall.app (Pure.any (rname_ok hG e.val hm.2) rfl) ?_ | refine SEx.of (map_get' (by omega) he) ?_ | refine yf rfl ?_ | refine yt rfl ?_ | refine yo rfl ?_ | refine yc rfl ?_ | refine ys rfl ?_ | refine ye rfl ?_ | refine yn rfl ?_ | refine zw ?_ | refine zdt ?_ | refine zdf ?_ | refine znt ?_ | refine znf ?_ | refine zcd ?_ | refine zci ?_ | refine zc3 ?_ | refine SIf.ds (fun _ => ?_) (fun _ => ?_) | refine SIf.ns (fun _ => ?_) (fun _ => ?_) | refine SIf.mk (fun _ => ?_) (fun _ => ?_) | (intro r hr; cases r)) <;> (conv => whnf)))
    all_goals first
      | exact pure_free rfl ⟨false, rfl, fun h => by cases h⟩
      | (refine hR (l.length - (i + 1)) _ _ (by omega) ⟨_, _, ?_, i + 1, by omega, rfl, rfl, rfl⟩; exact tL0)
  · ((conv => whnf); repeat' ((first | refine yf rfl ?_ | refine yt rfl ?_ | refine yo rfl ?_ | refine yc rfl ?_ | refine ys rfl ?_ | refine ye rfl ?_ | refine yn rfl ?_ | refine zw ?_ | refine zdt ?_ | refine zdf ?_ | refine znt ?_ | refine znf ?_ | refine zcd ?_ | refine zci ?_ | refine zc3 ?_ | refine SIf.ds (fun _ => ?_) (fun _ => ?_) | refine SIf.ns (fun _ => ?_) (fun _ => ?_) | refine SIf.mk (fun _ => ?_) (fun _ => ?_) | (intro r hr; cases r)) <;> (conv => whnf)))
    all_goals exact pure_free rfl ⟨_, rfl, fun h => by first | (cases h; done) | (simp at h; omega)⟩
set_option maxHeartbeats 4000000 in
theorem rterms_ok (l : List TermD) (hl : LenOk l) (ho : ∀ x ∈ l, x.ok) (hs : ∀ x ∈ l, x.sok) : Pure P 70 [.sl none 3 (l.map termR)] (TellsB (TermsMay l)) := by
  have hlm : (l.map termR).length = l.length := List.length_map _
  unfold LenOk at hl
  refine pure_fn (hG _ AF.f70 rfl) rfl ?_
  ((conv => whnf); repeat ((first | refine yf rfl ?_ | refine yt rfl ?_ | refine yo rfl ?_ | refine yc rfl ?_ | refine ys rfl ?_ | refine ye rfl ?_ | refine yn rfl ?_ | refine zw ?_ | refine zdt ?_ | refine zdf ?_ | refine znt ?_ | refine znf ?_ | refine zcd ?_ | refine zci ?_ | refine zc3 ?_) <;> (conv => whnf)))
  refine SLoopZ.by (fun q fr st => ∃ i : Nat, i ≤ l.length ∧ q = l.length - i ∧ (∀ x ∈ l.take i, x.vals.length ≤ 6) ∧ fr = [(9, .i .i64 i), (8, .i .i64 (l.map termR).length), (0, .sl none 3 (l.map termR))] ∧ st = gst noG)
    l.length ⟨_, _, ?_, 0, Nat.zero_le _, rfl, (fun x hx => by cases hx), rfl, rfl⟩ ?_
  · exact tL0
  rintro q fr st ⟨i, hi, rfl, hal, rfl, rfl⟩ R hR
  (conv => whnf)
  refine SIf.ds (fun hlt => ?_) (fun hge => ?_)
  · have hi' : i < l.length := by omega
    have he := List.getElem?_eq_getElem hi'
    have hm := hs _ (List.getElem_mem hi')
    have hv : l[i].vals.length ≤ 9223372036854775807 := ho _ (List.getElem_mem hi')
    generalize l[i] = e at he hm hv
    have hvm : (e.vals.map strR).length = e.vals.length := List.length_map _
    ((conv => whnf); repeat' ((first | refine SCall.app (Pure.any (rname_ok hG e.key hm.1) rfl) ?_ | refine SEx.of (map_get' (by omega) he) ?_ | refine yf rfl ?_ | refine yt rfl ?_ | refine yo rfl ?_ | refine yc rfl ?_ | refine ys rfl ?_ | refine ye rfl ?_ | refine yn rfl ?_ | refine zw ?_ | refine zdt ?_ | refine zdf ?_ | refine znt ?_ | refine znf ?_ | refine zcd ?_ | refine zci ?_ | refine zc3 ?_ | refine SIf.ds (fun _ => ?_) (fun _ => ?_) | refine SIf.ns (fun _ => ?_) (fun _ => ?_) | refine SIf.mk (fun _ => ?_) (fun _ => ?_) | (intro r hr; cases r)) <;> (conv => whnf)))
    all_goals try exact pure_free rfl ⟨false, rfl, fun h => by cases h⟩
    all_goals
      refine SLoopZ.by (fun q fr st => ∃ j : Nat, j ≤ e.vals.length ∧ q = e.vals.length - j ∧ fr = [(58, .i .i64 j), (57, .i .i64 (e.vals.map strR).length), (4, .p (.l 0) 0), (9, .i .i64 i), (8, .i .i64 (l.map termR).length), (0, .sl none 3 (l.map termR))] ∧ st = ⟨noG, ⟨1, [(0, .cs (termR e))]⟩⟩)
        e.vals.length ⟨_, _, ?_, 0, Nat.zero_le _, rfl, rfl, rfl⟩ ?_
      · exact tL [0]
      rintro q fr st ⟨j, hj, rfl, rfl, rfl⟩ R2 hR2
      (conv => whnf)
      refine SIf.ds (fun hlt2 => ?_) (fun hge2 => ?_)
      · have hj' : j < e.vals.length := by omega
        have hf := List.getElem?_eq_getElem hj'
        have hfm := hm.2 _ (List.getElem_mem hj')
        generalize e.vals[j] = f at hf hfm
        ((conv => whnf); repeat' ((first | refine SCall.app (Pure.any (rname_ok hG f hfm) rfl) ?_ | refine SEx.of (map_get' (by omega) hf) ?_ | refine yf rfl ?_ | refine yt rfl ?_ | refine yo rfl ?_ | refine yc rfl ?_ | refine ys rfl ?_ | refine ye rfl ?_ | refine yn rfl ?_ | refine zw ?_ | refine zdt ?_ | refine zdf ?_ | refine znt ?_ | refine znf ?_ | refine zcd ?_ | refine zci ?_ | refine zc3 ?_ | refine SIf.ds (fun _ => ?_) (fun _ => ?_) | refine SIf.ns (fun _ => ?_) (fun _ => ?_) | refine SIf.mk (fun _ => ?_) (fun _ => ?_) | (intro r hr; cases r)) <;> (conv => whnf)))
        all_goals first
          | exact pure_free rfl ⟨false, rfl, fun h => by cases h⟩
          | (refine hR2 (e.vals.length - (j + 1)) _ _ (by omega) ⟨_, _, ?_, j + 1, by omega, rfl, rfl, rfl⟩; exact tL [0])
      · ((conv => whnf); repeat ((first | refine yf rfl ?_ | refine yt rfl ?_ | refine yo rfl ?_ | refine yc rfl ?_ | refine ys rfl ?_ | refine ye rfl ?_ | refine yn rfl ?_ | refine zw ?_ | refine zdt ?_ | refine zdf ?_ | refine znt ?_ | refine znf ?_ | refine zcd ?_ | refine zci ?_ | refine zc3 ?_) <;> (conv => whnf)))
        refine hR (l.length - (i + 1)) _ _ (by omega) ⟨_, _, ?_, i + 1, by omega, rfl, all_step hal he (by omega), rfl, rfl⟩
        exact tL0
  · ((conv => whnf); repeat' ((first | refine yf rfl ?_ | refine yt rfl ?_ | refine yo rfl ?_ | refine yc rfl ?_ | refine ys rfl ?_ | refine ye rfl ?_ | refine yn rfl ?_ | refine zw ?_ | refine zdt ?_ | refine zdf ?_ | refine znt ?_ | refine znf ?_ | refine zcd ?_ | refine zci ?_ | refine zc3 ?_ | refine SIf.ds (fun _ => ?_) (fun _ => ?_) | refine SIf.ns (fun _ => ?_) (fun _ => ?_) | refine SIf.mk (fun _ => ?_) (fun _ => ?_) | (intro r hr; cases r)) <;> (conv => whnf)))
    all_goals
      rw [List.take_of_length_le (by omega)] at hal
      exact pure_free rfl ⟨_, rfl, fun h => by first | (cases h; done) | (simp at h; exact ⟨by omega, hal⟩)⟩
set_option maxHeartbeats 8000000 in
theorem rpod_ok (p : PodD) (hp : p.ok) (hs : p.sok) : Pure P 19 [.agg (podR p)] (TellsB (PodMay p)) := by
  have hlm : (p.ports.map intR).length = p.ports.length := List.length_map _
  have hl := hp.ports
  unfold LenOk at hl
  refine pure_fn (hG _ AF.f19 rfl) rfl ?_
  ((conv => whnf); repeat ((first | refine yf rfl ?_ | refine yt rfl ?_ | refine yo rfl ?_ | refine yc rfl ?_ | refine ys rfl ?_ | refine ye rfl ?_ | refine yn rfl ?_ | refine zw ?_ | refine zdt ?_ | refine zdf ?_ | refine znt ?_ | refine znf ?_ | refine zcd ?_ | refine zci ?_ | refine zc3 ?_) <;> (conv => whnf)))
  refine SLoopZ.by (fun q fr st => ∃ i : Nat, i ≤ p.ports.length ∧ q = p.ports.length - i ∧ fr = [(7, .i .i64 i), (6, .i .i64 (p.ports.map intR).length), (1, .p (.l 0) 0)] ∧ st = ⟨noG, ⟨1, [(0, .cs (podR p))]⟩⟩)
    p.ports.length ⟨_, _, ?_, 0, Nat.zero_le _, rfl, rfl, rfl⟩ ?_
  · exact tL [0]
  rintro q fr st ⟨i, hi, rfl, rfl, rfl⟩ R hR
  (conv => whnf)
  refine SIf.ds (fun hlt => ?_) (fun hge => ?_)
  · have hi' : i < p.ports.length := by omega
    have he := List.getElem?_eq_getElem hi'
    generalize p.ports[i] = e at he
    rcases Nat.eq_zero_or_pos i with h0 | h0
    · ((conv => whnf); repeat' ((first | refine SEx.of (map_get' (by omega) he) ?_ | refine yf rfl ?_ | refine yt rfl ?_ | refine yo rfl ?_ | refine yc rfl ?_ | refine ys rfl ?_ | refine ye rfl ?_ | refine yn rfl ?_ | refine zw ?_ | refine zdt ?_ | refine zdf ?_ | refine znt ?_ | refine znf ?_ | refine zcd ?_ | refine zci ?_ | refine zc3 ?_ | refine SIf.ds (fun _ => ?_) (fun _ => ?_) | refine SIf.ns (fun _ => ?_) (fun _ => ?_) | refine SIf.mk (fun _ => ?_) (fun _ => ?_) | (intro r hr; cases r)) <;> (conv => whnf)))
      all_goals first
        | exact pure_free rfl ⟨false, rfl, fun h => by cases h⟩
        | (refine hR (p.ports.length - (i + 1)) _ _ (by omega) ⟨_, _, ?_, i + 1, by omega, rfl, rfl, rfl⟩; exact tL [0])
    · have hi2 : i - 1 < p.ports.length := by omega
      have hf := List.getElem?_eq_getElem hi2
      generalize p.ports[i - 1] = f at hf
      ((conv => whnf); repeat' ((first | refine SEx.of (map_get' (by omega) he) ?_ | refine SEx.of (map_get' (by omega) hf) ?_ | refine yf rfl ?_ | refine yt rfl ?_ | refine yo rfl ?_ | refine yc rfl ?_ | refine ys rfl ?_ | refine ye rfl ?_ | refine yn rfl ?_ | refine zw ?_ | refine zdt ?_ | refine zdf ?_ | refine znt ?_ | refine znf ?_ | refine zcd ?_ | refine zci ?_ | refine zc3 ?_ | refine SIf.ds (fun _ => ?_) (fun _ => ?_) | refine SIf.ns (fun _ => ?_) (fun _ => ?_) | refine SIf.mk (fun _ => ?_) (fun _ => ?_) | (intro r hr; cases r)) <;> (conv => whnf)))
      all_goals first
        | exact pure_free rfl ⟨false, rfl, fun h => by cases h⟩
        | (refine hR (p.ports.length - (i + 1)) _ _ (by omega) ⟨_, _, ?_, i + 1, by omega, rfl, rfl, rfl⟩; exact tL [0])
  · ((conv => whnf); repeat' ((first | refine SCall.app (Pure.any (rname_ok hG p.name hs.name) rfl) ?_ | refine SCall.app (Pure.any (rname_ok hG p.topo hs.topo) rfl) ?_ | refine SCall.app (Pure.any (rname_ok hG p.node hs.node) rfl) ?_ | refine SCall.app (Pure.any (rmay_ok hG p.req) rfl) ?_ | refine SCall.app (Pure.any (rpairs_ok hG _ hp.labels hs.labels) rfl) ?_ | refine SCall.app (Pure.any (rterms_ok hG p.sel hp.sel.len hp.sel.each hs.sel) rfl) ?_ | refine SCall.app (Pure.any (rterms_ok hG p.anti hp.anti.len hp.anti.each hs.anti) rfl) ?_ | refine SCall.app (Pure.any (rterms_ok hG p.even hp.even.len hp.even.each hs.even) rfl) ?_ | refine SCall.app (Pure.any (rtols_ok hG p.tols hp.tols hs.tols) rfl) ?_ | refine yf rfl ?_ | refine yt rfl ?_ | refine yo rfl ?_ | refine yc rfl ?_ | refine ys rfl ?_ | refine ye rfl ?_ | refine yn rfl ?_ | refine zw ?_ | refine zdt ?_ | refine zdf ?_ | refine znt ?_ | refine znf ?_ | refine zcd ?_ | refine zci ?_ | refine zc3 ?_ | refine SIf.ds (fun _ => ?_) (fun _ => ?_) | refine SIf.ns (fun _ => ?_) (fun _ => ?_) | refine SIf.mk (fun _ => ?_) (fun _ => ?_) | (intro r hr; cases r)) <;> (conv => whnf)))
    all_goals first
      | exact pure_free rfl ⟨false, rfl, fun h => by cases h⟩
      | exact pure_free rfl ⟨_, rfl, fun _ => ⟨by omega, (by assumption : true = true → p.labels.length ≤ 6) rfl, (by assumption : true = true → TermsMay p.sel) rfl, (by assumption : true = true → p.tols.length ≤ 6) rfl, (by assumption : true = true → TermsMay p.anti) rfl, (by assumption : true = true → TermsMay p.even) rfl, (by assumption : true = true → ResMay p.req) rfl⟩⟩
end
end Go.Eng
