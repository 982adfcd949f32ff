/-
Names in order; where a pod may go, of nodes that stand in order.
-/
import Derived.Test.YtllgfkpmblhbmaaGreatWh0
import Derived.Test.YtllgfkpmblhbmaaGreatFitB
import Derived.Test.YtllgfkpmblhbmaaGreatArgX
import Derived.Test.YtllgfkpmblhbmaaGreatFitD
set_option linter.unusedVariables false
set_option linter.unusedSimpArgs false
namespace Go.Eng
open Go
section
variable {P : Program} (hG : FnsOk P AF.fns.get)
include hG
set_option maxHeartbeats 4000000 in
theorem isort_ok (hcmp : CmpOk P) (es : List Str) (hl : es.length ≤ 6) (hs : es.Pairwise lessS) :
    Pure P 165 [.sl none 1 (es.map strR), .i .i64 0, .i .i64 es.length, .fn 45 [] []] (· = .tup []) := by
  have hlm : (es.map strR).length = es.length := List.length_map _
  refine pure_fn (hG _ AF.f165 rfl) rfl ?_
  ((conv => whnf); repeat ((first | refine yf rfl ?_ | refine yt rfl ?_ | refine yo rfl ?_ | refine yc rfl ?_ | refine ys rfl ?_ | refine ye rfl ?_ | refine yn rfl ?_ | refine zw ?_ | refine zdt ?_ | refine zdf ?_ | refine znt ?_ | refine znf ?_ | refine zcd ?_ | refine zci ?_ | refine zc3 ?_) <;> (conv => whnf)))
  refine SLoopZ.by (fun q fr st => ∃ i : Nat, 1 ≤ i ∧ i ≤ es.length + 1 ∧ q = es.length + 1 - i ∧
      fr = [(8, .i .i64 i), (3, .fn 45 [] []), (2, .i .i64 es.length), (1, .i .i64 0), (0, .sl none 1 (es.map strR))] ∧ st = gst noG)
    es.length ⟨_, _, ?_, 1, by omega, by omega, by omega, rfl, rfl⟩ ?_
  · exact tL0
  rintro q fr st ⟨i, hi1, hi, rfl, rfl, rfl⟩ R hR
  (conv => whnf)
  refine SIf.ds (fun hlt => ?_) (fun hge => ?_)
  · have hi' : i < es.length := by omega
    have hj' : i - 1 < es.length := by omega
    have he := List.getElem?_eq_getElem hi'
    have hf := List.getElem?_eq_getElem hj'
    generalize es[i] = e at he
    generalize es[i - 1] = f at hf
    have hfe := cmpB_of_less (pair_get hs (by omega : i - 1 < i) hf he)
    have hc := compare_ok hG hcmp e f
    generalize cmpB e f = c at hfe hc
    ((conv => whnf); repeat ((first | refine SCall.app (Pure.go hc rfl) ?_ | refine SEx.of (map_get' (by omega) he) ?_ | refine SEx.of (map_get' (by omega) hf) ?_ | refine yf rfl ?_ | refine yt rfl ?_ | refine yo rfl ?_ | refine yc rfl ?_ | refine ys rfl ?_ | refine ye rfl ?_ | refine yn rfl ?_ | refine zw ?_ | refine zdt ?_ | refine zdf ?_ | refine znt ?_ | refine znf ?_ | refine zcd ?_ | refine zci ?_ | refine zc3 ?_ | refine SLoopZ.un rfl ?_) <;> (conv => whnf)))
    refine hR (es.length + 1 - (i + 1)) _ _ (by omega) ⟨_, _, ?_, i + 1, by omega, by omega, rfl, rfl, rfl⟩
    exact tL0
  · ((conv => whnf); repeat ((first | refine yf rfl ?_ | refine yt rfl ?_ | refine yo rfl ?_ | refine yc rfl ?_ | refine ys rfl ?_ | refine ye rfl ?_ | refine yn rfl ?_ | refine zw ?_ | refine zdt ?_ | refine zdf ?_ | refine znt ?_ | refine znf ?_ | refine zcd ?_ | refine zci ?_ | refine zc3 ?_) <;> (conv => whnf)))
    exact pure_free rfl rfl
theorem pdq_ok (hcmp : CmpOk P) (es : List Str) (hl : es.length ≤ 6) (hs : es.Pairwise lessS) (m : Int) :
    Pure P 98 [.sl none 1 (es.map strR), .i .i64 0, .i .i64 es.length, .i .i64 m, .fn 45 [] []] (· = .tup []) := by
  have hc := isort_ok hG hcmp es hl hs
  refine pure_fn (hG _ AF.f98 rfl) rfl ?_
  have h0 : ((es.length : Nat) : Int) - 0 = es.length := Int.sub_zero _
  ((conv => whnf); repeat ((first | refine SCall.app (Pure.go hc rfl) ?_ | refine yf rfl ?_ | refine yt rfl ?_ | refine yo rfl ?_ | refine yc rfl ?_ | refine ys rfl ?_ | refine ye rfl ?_ | refine yn rfl ?_ | refine zw ?_ | refine zdt ?_ | refine zdf ?_ | refine znt ?_ | refine znf ?_ | refine zcd ?_ | refine zci ?_ | refine zc3 ?_ | refine SLoopZ.un rfl ?_) <;> (conv => whnf)))
  exact pure_free rfl rfl
theorem blen_ok (n : Nat) (h : n ≤ 6) : ∃ r, Pure P 99 [.i .u64 n] (· = .i .i64 r) := by
  have : n = 0 ∨ n = 1 ∨ n = 2 ∨ n = 3 ∨ n = 4 ∨ n = 5 ∨ n = 6 := by omega
  rcases this with rfl | rfl | rfl | rfl | rfl | rfl | rfl
  · refine ⟨0, pure_fn (hG _ AF.f99 rfl) rfl ?_⟩
    ((conv => whnf); repeat ((first | refine SCall.app (fn_sf (hG _ _ rfl) rfl) ?_ | refine SWrap.w64 (by decide) (by decide) ?_ | refine SWrap.of (by decide) (by decide) ?_ | refine yf rfl ?_ | refine yt rfl ?_ | refine yo rfl ?_ | refine yc rfl ?_ | refine ys rfl ?_ | refine ye rfl ?_ | refine yn rfl ?_ | refine zw ?_ | refine zdt ?_ | refine zdf ?_ | refine znt ?_ | refine znf ?_ | refine zcd ?_ | refine zci ?_ | refine zc3 ?_ | refine SLoopZ.un rfl ?_) <;> (conv => whnf)))
    refine pure_free ?_ ?_ <;> rfl
  · refine ⟨1, pure_fn (hG _ AF.f99 rfl) rfl ?_⟩
    ((conv => whnf); repeat ((first | refine SCall.app (fn_sf (hG _ _ rfl) rfl) ?_ | refine SWrap.w64 (by decide) (by decide) ?_ | refine SWrap.of (by decide) (by decide) ?_ | refine yf rfl ?_ | refine yt rfl ?_ | refine yo rfl ?_ | refine yc rfl ?_ | refine ys rfl ?_ | refine ye rfl ?_ | refine yn rfl ?_ | refine zw ?_ | refine zdt ?_ | refine zdf ?_ | refine znt ?_ | refine znf ?_ | refine zcd ?_ | refine zci ?_ | refine zc3 ?_ | refine SLoopZ.un rfl ?_) <;> (conv => whnf)))
    refine pure_free ?_ ?_ <;> rfl
  · refine ⟨2, pure_fn (hG _ AF.f99 rfl) rfl ?_⟩
    ((conv => whnf); repeat ((first | refine SCall.app (fn_sf (hG _ _ rfl) rfl) ?_ | refine SWrap.w64 (by decide) (by decide) ?_ | refine SWrap.of (by decide) (by decide) ?_ | refine yf rfl ?_ | refine yt rfl ?_ | refine yo rfl ?_ | refine yc rfl ?_ | refine ys rfl ?_ | refine ye rfl ?_ | refine yn rfl ?_ | refine zw ?_ | refine zdt ?_ | refine zdf ?_ | refine znt ?_ | refine znf ?_ | refine zcd ?_ | refine zci ?_ | refine zc3 ?_ | refine SLoopZ.un rfl ?_) <;> (conv => whnf)))
    refine pure_free ?_ ?_ <;> rfl
  · refine ⟨2, pure_fn (hG _ AF.f99 rfl) rfl ?_⟩
    ((conv => whnf); repeat ((first | refine SCall.app (fn_sf (hG _ _ rfl) rfl) ?_ | refine SWrap.w64 (by decide) (by decide) ?_ | refine SWrap.of (by decide) (by decide) ?_ | refine yf rfl ?_ | refine yt rfl ?_ | refine yo rfl ?_ | refine yc rfl ?_ | refine ys rfl ?_ | refine ye rfl ?_ | refine yn rfl ?_ | refine zw ?_ | refine zdt ?_ | refine zdf ?_ | refine znt ?_ | refine znf ?_ | refine zcd ?_ | refine zci ?_ | refine zc3 ?_ | refine SLoopZ.un rfl ?_) <;> (conv => whnf)))
    refine pure_free ?_ ?_ <;> rfl
  · refine ⟨3, pure_fn (hG _ AF.f99 rfl) rfl ?_⟩
    ((conv => whnf); repeat ((first | refine SCall.app (fn_sf (hG _ _ rfl) rfl) ?_ | refine SWrap.w64 (by decide) (by decide) ?_ | refine SWrap.of (by decide) (by decide) ?_ | refine yf rfl ?_ | refine yt rfl ?_ | refine yo rfl ?_ | refine yc rfl ?_ | refine ys rfl ?_ | refine ye rfl ?_ | refine yn rfl ?_ | refine zw ?_ | refine zdt ?_ | refine zdf ?_ | refine znt ?_ | refine znf ?_ | refine zcd ?_ | refine zci ?_ | refine zc3 ?_ | refine SLoopZ.un rfl ?_) <;> (conv => whnf)))
    refine pure_free ?_ ?_ <;> rfl
  · refine ⟨3, pure_fn (hG _ AF.f99 rfl) rfl ?_⟩
    ((conv => whnf); repeat ((first | refine SCall.app (fn_sf (hG _ _ rfl) rfl) ?_ | refine SWrap.w64 (by decide) (by decide) ?_ | refine SWrap.of (by decide) (by decide) ?_ | refine yf rfl ?_ | refine yt rfl ?_ | refine yo rfl ?_ | refine yc rfl ?_ | refine ys rfl ?_ | refine ye rfl ?_ | refine yn rfl ?_ | refine zw ?_ | refine zdt ?_ | refine zdf ?_ | refine znt ?_ | refine znf ?_ | refine zcd ?_ | refine zci ?_ | refine zc3 ?_ | refine SLoopZ.un rfl ?_) <;> (conv => whnf)))
    refine pure_free ?_ ?_ <;> rfl
  · refine ⟨3, pure_fn (hG _ AF.f99 rfl) rfl ?_⟩
    ((conv => whnf); repeat ((first | refine SCall.app (fn_sf (hG _ _ rfl) rfl) ?_ | refine SWrap.w64 (by decide) (by decide) ?_ | refine SWrap.of (by decide) (by decide) ?_ | refine yf rfl ?_ | refine yt rfl ?_ | refine yo rfl ?_ | refine yc rfl ?_ | refine ys rfl ?_ | refine ye rfl ?_ | refine yn rfl ?_ | refine zw ?_ | refine zdt ?_ | refine zdf ?_ | refine znt ?_ | refine znf ?_ | refine zcd ?_ | refine zci ?_ | refine zc3 ?_ | refine SLoopZ.un rfl ?_) <;> (conv => whnf)))
    refine pure_free ?_ ?_ <;> rfl
theorem sortf_ok (hcmp : CmpOk P) (es : List Str) (hl : es.length ≤ 6) (hs : es.Pairwise lessS) :
    Pure P 49 [.sl none 1 (es.map strR), .fn 45 [] []] (· = .tup []) := by
  obtain ⟨r, hr⟩ := blen_ok hG es.length hl
  have hc := pdq_ok hG hcmp es hl hs r
  have hlm : (es.map strR).length = es.length := List.length_map _
  rw [← hlm] at hr hc
  refine pure_fn (hG _ AF.f49 rfl) rfl ?_
  ((conv => whnf); repeat ((first | refine SCall.app (Pure.go hr rfl) ?_ | refine SCall.app (Pure.go hc rfl) ?_ | refine SWrap.wu (by omega) (by omega) ?_ | refine yf rfl ?_ | refine yt rfl ?_ | refine yo rfl ?_ | refine yc rfl ?_ | refine ys rfl ?_ | refine ye rfl ?_ | refine yn rfl ?_ | refine zw ?_ | refine zdt ?_ | refine zdf ?_ | refine znt ?_ | refine znf ?_ | refine zcd ?_ | refine zci ?_ | refine zc3 ?_) <;> (conv => whnf)))
  exact pure_free rfl rfl
set_option maxHeartbeats 4000000 in
set_option maxRecDepth 10000 in
theorem where_ok (hcmp : CmpOk P) (s : StD) (p : PodD) (hs : s.ok) (hp : p.fit) (hsm : Small s) (h6 : s.nodes.length ≤ 6)
    (hso : s.nodes.Pairwise fun a b => lessS a.name b.name) : Pure P 16 [stV s, .agg (podR p)] (· = .sl none 1 ((whereD s p).map strR)) := by
  have hlm : (s.nodes.map nodeR).length = s.nodes.length := List.length_map _
  obtain ⟨f, hf⟩ : ∃ f : NodeD → Bool, f = fun n => feasD s p n.name := ⟨_, rfl⟩
  refine pure_fn (hG _ AF.f16 rfl) rfl ?_
  ((conv => whnf); repeat ((first | refine yf rfl ?_ | refine yt rfl ?_ | refine yo rfl ?_ | refine yc rfl ?_ | refine ys rfl ?_ | refine ye rfl ?_ | refine yn rfl ?_ | refine zw ?_ | refine zdt ?_ | refine zdf ?_ | refine znt ?_ | refine znf ?_ | refine zcd ?_ | refine zci ?_ | refine zc3 ?_) <;> (conv => whnf)))
  refine SLoopZ.by (fun q fr st => ∃ (i : Nat) (b : Bool) (es : List Str), i ≤ s.nodes.length ∧ q = s.nodes.length - i ∧ es = ((s.nodes.take i).filter f).map (·.name) ∧ (b = false → es = []) ∧
      fr = [(11, .i .i64 i), (10, .i .i64 (s.nodes.map nodeR).length), (9, .sl none 6 (s.nodes.map nodeR)), (5, accV b 2 1 (es.map strR)), (3, .p (.l 1) 0), (2, .p (.l 0) 0)] ∧
      st = accS b 2 [(1, .cs (podR p)), (0, .cs [.sl none 6 (s.nodes.map nodeR), .sl none 16 (s.pods.map podR)])])
    s.nodes.length ⟨_, _, ?_, 0, false, [], Nat.zero_le _, rfl, rfl, fun _ => rfl, rfl, rfl⟩ ?_
  · exact tL [0, 1]
  rintro q fr st ⟨i, b, es, hi, rfl, hes, hb, rfl, rfl⟩ R hR
  have hesl : es.length ≤ i := by
    rw [hes, List.length_map]
    exact Nat.le_trans (List.length_filter_le _ _) (List.length_take_le _ _)
  (conv => whnf)
  refine SIf.ds (fun hlt => ?_) (fun hge => ?_)
  · have hi' : i < s.nodes.length := by omega
    have he := List.getElem?_eq_getElem hi'
    generalize s.nodes[i] = e at he
    have h1 : f e = true → es ++ [e.name] = ((s.nodes.take (i + 1)).filter f).map (·.name) := fun h => by
      rw [take_succ' he, List.filter_append, List.map_append, ← hes]
      simp [h]
    have h0 : f e = false → es = ((s.nodes.take (i + 1)).filter f).map (·.name) := fun h => by
      rw [take_succ' he, List.filter_append, List.map_append, ← hes]
      simp [h]
    have hint : es.map strR ++ [strR e.name] = (es ++ [e.name]).map strR := by rw [List.map_append]; rfl
    have hc := feas_ok hG s p e.name hs hp hsm
    have hfe : f e = feasD s p e.name := by rw [hf]
    rw [← hfe] at hc
    generalize f e = c at hc h1 h0
    cases c <;> cases b
    · obtain rfl : es = [] := hb rfl
      ((conv => whnf); repeat ((first | refine SCall.app (Pure.go hc rfl) ?_ | refine SEx.of (map_get' (by omega) he) ?_ | refine yf rfl ?_ | refine yt rfl ?_ | refine yo rfl ?_ | refine yc rfl ?_ | refine ys rfl ?_ | refine ye rfl ?_ | refine yn rfl ?_ | refine zw ?_ | refine zdt ?_ | refine zdf ?_ | refine znt ?_ | refine znf ?_ | refine zcd ?_ | refine zci ?_ | refine zc3 ?_) <;> (conv => whnf)))
      refine hR (s.nodes.length - (i + 1)) _ _ (by omega) ⟨_, _, ?_, i + 1, false, [], by omega, rfl, h0 rfl, fun _ => rfl, rfl, rfl⟩
      exact tL [0, 1]
    · ((conv => whnf); repeat ((first | refine SCall.app (Pure.go hc rfl) ?_ | refine SEx.of (map_get' (by omega) he) ?_ | refine yf rfl ?_ | refine yt rfl ?_ | refine yo rfl ?_ | refine yc rfl ?_ | refine ys rfl ?_ | refine ye rfl ?_ | refine yn rfl ?_ | refine zw ?_ | refine zdt ?_ | refine zdf ?_ | refine znt ?_ | refine znf ?_ | refine zcd ?_ | refine zci ?_ | refine zc3 ?_) <;> (conv => whnf)))
      refine hR (s.nodes.length - (i + 1)) _ _ (by omega) ⟨_, _, ?_, i + 1, true, es, by omega, rfl, h0 rfl, (fun h => by cases h), rfl, rfl⟩
      exact tL [0, 1, 2]
    · obtain rfl : es = [] := hb rfl
      ((conv => whnf); repeat ((first | refine SCall.app (Pure.go hc rfl) ?_ | refine SEx.of (map_get' (by omega) he) ?_ | refine yf rfl ?_ | refine yt rfl ?_ | refine yo rfl ?_ | refine yc rfl ?_ | refine ys rfl ?_ | refine ye rfl ?_ | refine yn rfl ?_ | refine zw ?_ | refine zdt ?_ | refine zdf ?_ | refine znt ?_ | refine znf ?_ | refine zcd ?_ | refine zci ?_ | refine zc3 ?_) <;> (conv => whnf)))
      refine hR (s.nodes.length - (i + 1)) _ _ (by omega) ⟨_, _, ?_, i + 1, true, [] ++ [e.name], by omega, rfl, h1 rfl, (fun h => by cases h), rfl, rfl⟩
      exact tL [0, 1, 4]
    · ((conv => whnf); repeat ((first | refine SCall.app (Pure.go hc rfl) ?_ | refine SEx.of (congrArg some hint) ?_ | refine SChk.mk (by simp [roomOk]; omega) ?_ | refine SEx.of (map_get' (by omega) he) ?_ | refine yf rfl ?_ | refine yt rfl ?_ | refine yo rfl ?_ | refine yc rfl ?_ | refine ys rfl ?_ | refine ye rfl ?_ | refine yn rfl ?_ | refine zw ?_ | refine zdt ?_ | refine zdf ?_ | refine znt ?_ | refine znf ?_ | refine zcd ?_ | refine zci ?_ | refine zc3 ?_) <;> (conv => whnf)))
      refine hR (s.nodes.length - (i + 1)) _ _ (by omega) ⟨_, _, ?_, i + 1, true, es ++ [e.name], by omega, rfl, h1 rfl, (fun h => by cases h), rfl, rfl⟩
      exact tL [0, 1, 5]
  · have hall : es = whereD s p := by
      rw [hes, List.take_of_length_le (by omega), hf]
      rfl
    have hsrt : es.Pairwise lessS := by
      rw [hall, whereD]
      exact List.pairwise_map.2 (hso.filter _)
    have hc := sortf_ok hG hcmp es (by omega) hsrt
    rw [← hall]
    cases b
    · obtain rfl : es = [] := hb rfl
      ((conv => whnf); repeat ((first | refine SCall.app (Pure.call1 hc (by ((repeat (first | exact trivial | refine ⟨by first | exact ce1_free rfl | exact .inl .nil | exact .inl .tok | exact .inl (.rows (by ((repeat (first | exact .nil | refine .cons (by ((repeat (first | exact .nil | refine .cons (by first | exact .refl _ | exact .nil _) ?_)); first | done | fail)) ?_)); first | done | fail))) | exact .inr (.inl ⟨_, _, rfl, rfl, (by ((repeat (first | exact trivial | refine ⟨by first | exact ce_flat rfl | exact .nil | exact .tok | exact .ren rfl (Nat.le_of_ble_eq_true rfl) | exact .rows (by ((repeat (first | exact .nil | refine .cons (by ((repeat (first | exact .nil | refine .cons (by first | exact .refl _ | exact .nil _) ?_)); first | done | fail)) ?_)); first | done | fail)), ?_⟩)); first | done | fail))⟩), ?_⟩)); first | done | fail)) rfl) ?_ | refine yf rfl ?_ | refine yt rfl ?_ | refine yo rfl ?_ | refine yc rfl ?_ | refine ys rfl ?_ | refine ye rfl ?_ | refine yn rfl ?_ | refine zw ?_ | refine zdt ?_ | refine zdf ?_ | refine znt ?_ | refine znf ?_ | refine zcd ?_ | refine zci ?_ | refine zc3 ?_) <;> (conv => whnf)))
      exact pure_nil rfl
    · ((conv => whnf); repeat ((first | refine SCall.app (Pure.call1 hc (by ((repeat (first | exact trivial | refine ⟨by first | exact ce1_free rfl | exact .inl .nil | exact .inl .tok | exact .inl (.rows (by ((repeat (first | exact .nil | refine .cons (by ((repeat (first | exact .nil | refine .cons (by first | exact .refl _ | exact .nil _) ?_)); first | done | fail)) ?_)); first | done | fail))) | exact .inr (.inl ⟨_, _, rfl, rfl, (by ((repeat (first | exact trivial | refine ⟨by first | exact ce_flat rfl | exact .nil | exact .tok | exact .ren rfl (Nat.le_of_ble_eq_true rfl) | exact .rows (by ((repeat (first | exact .nil | refine .cons (by ((repeat (first | exact .nil | refine .cons (by first | exact .refl _ | exact .nil _) ?_)); first | done | fail)) ?_)); first | done | fail)), ?_⟩)); first | done | fail))⟩), ?_⟩)); first | done | fail)) rfl) ?_ | refine yf rfl ?_ | refine yt rfl ?_ | refine yo rfl ?_ | refine yc rfl ?_ | refine ys rfl ?_ | refine ye rfl ?_ | refine yn rfl ?_ | refine zw ?_ | refine zdt ?_ | refine zdf ?_ | refine znt ?_ | refine znf ?_ | refine zcd ?_ | refine zci ?_ | refine zc3 ?_) <;> (conv => whnf)))
      exact pure_tok rfl
end
end Go.Eng
