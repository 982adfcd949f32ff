/-
Where a pod may go, by the document.
-/
import Derived.Test.YtabnhgnnolfpgaaGreatFitW
import Derived.Test.YtabnhgnnolfpgaaGreatFitE
import Derived.Test.YtabnhgnnolfpgaaGreatFitF
namespace Go.Eng
open Go
section
variable {P : Program} (hG : FnsOk P AF.fns.get)
include hG
set_option maxHeartbeats 4000000 in
set_option maxRecDepth 10000 in
theorem rfeas_ok (s : StD) (p : PodD) (node : Str) (hs : s.ok) (hp : p.ok) : Pure P 25 [stV s, .agg (podR p), .s node] (· = .b (feasD s p node)) := by
  have hg := rgetnode_ok hG s node hs.nodes
  refine pure_fn (hG _ AF.f25 rfl) rfl ?_
  simp only [feasD]
  cases hf : s.nodes.find? (fun n => n.name == node) with
  | none =>
    rw [hf] at hg
    ((conv => whnf); repeat ((first | refine SCall.app (Pure.go hg rfl) ?_ | refine yf rfl ?_ | refine yt rfl ?_ | refine yo rfl ?_ | refine yc rfl ?_ | refine ys rfl ?_ | refine ye rfl ?_ | refine yn rfl ?_ | refine zw ?_ | refine zdt ?_ | refine zdf ?_ | refine znt ?_ | refine znf ?_ | refine zcd ?_ | refine zci ?_ | refine zc3 ?_) <;> (conv => whnf)))
    exact pure_free rfl rfl
  | some n =>
    rw [hf] at hg
    have hn := hs.node n (List.mem_of_find?_eq_some hf)
    have a1 := rroom_ok hG s p n hs
    have a2 := rports_ok hG s p n hs hp.ports
    have a3 := rmatch_ok hG p.sel n.labels hp.sel hn.labels
    have a4 := rborne_ok hG p.tols n.taints hp.tols hn.taints
    have a5 := rapart_ok hG s p node hs hp
    have a6 := reven_ok hG s p node hs hp
    simp only [eachD, wantsD, borneD]
    generalize roomD s p n = b1 at a1
    generalize portsD s p n = b2 at a2
    generalize (p.sel.all fun t => holdsD t n.labels) = b3 at a3
    generalize allD p.tols n.taints = b4 at a4
    generalize apartD s p node = b5 at a5
    generalize evenD s p node = b6 at a6
    cases hpn : (p.node == [])
    · ((conv => whnf); repeat ((first | refine SCall.app (Pure.go hg rfl) ?_ | refine SIf.ff hpn ?_ | refine yf rfl ?_ | refine yt rfl ?_ | refine yo rfl ?_ | refine yc rfl ?_ | refine ys rfl ?_ | refine ye rfl ?_ | refine yn rfl ?_ | refine zw ?_ | refine zdt ?_ | refine zdf ?_ | refine znt ?_ | refine znf ?_ | refine zcd ?_ | refine zci ?_ | refine zc3 ?_) <;> (conv => whnf)))
      exact pure_free rfl rfl
    · rcases six b1 b2 b3 b4 b5 with rfl | ⟨rfl, rfl⟩ | ⟨rfl, rfl, rfl⟩ | ⟨rfl, rfl, rfl, rfl⟩ | ⟨rfl, rfl, rfl, rfl, rfl⟩ | ⟨rfl, rfl, rfl, rfl, rfl⟩
      all_goals ((conv => whnf); repeat ((first | refine SCall.app (Pure.go hg rfl) ?_ | refine SIf.tt hpn ?_ | refine SCall.app (Pure.go a1 rfl) ?_ | refine SCall.app (Pure.go a2 rfl) ?_ | refine SCall.app (Pure.go a3 rfl) ?_ | refine SCall.app (Pure.go a4 rfl) ?_ | refine SCall.app (Pure.go a5 rfl) ?_ | refine SCall.app (Pure.go a6 rfl) ?_ | refine yf rfl ?_ | refine yt rfl ?_ | refine yo rfl ?_ | refine yc rfl ?_ | refine ys rfl ?_ | refine ye rfl ?_ | refine yn rfl ?_ | refine zw ?_ | refine zdt ?_ | refine zdf ?_ | refine znt ?_ | refine znf ?_ | refine zcd ?_ | refine zci ?_ | refine zc3 ?_) <;> (conv => whnf)))
      all_goals exact pure_free rfl rfl
set_option maxHeartbeats 4000000 in
set_option maxRecDepth 10000 in
theorem rwhere_ok (s : StD) (p : PodD) (hs : s.ok) (hp : p.ok) (h6 : s.nodes.length ≤ 6)
    (hso : s.nodes.Pairwise fun a b => lessS a.name b.name) : Pure P 24 [stV s, .agg (podR p)] (· = .sl none 1 ((whereD s p).map strR)) := by
  have hlm : (s.nodes.map nodeR).length = s.nodes.length := List.length_map _
  obtain ⟨f, hf⟩ : ∃ f : NodeD → Bool, f = fun n => feasD s p n.name := ⟨_, rfl⟩
  refine pure_fn (hG _ AF.f24 rfl) rfl ?_
  ((conv => whnf); repeat ((first | refine yf rfl ?_ | refine yt rfl ?_ | refine yo rfl ?_ | refine yc rfl ?_ | refine ys rfl ?_ | refine ye rfl ?_ | refine yn rfl ?_ | refine zw ?_ | refine zdt ?_ | refine zdf ?_ | refine znt ?_ | refine znf ?_ | refine zcd ?_ | refine zci ?_ | refine zc3 ?_) <;> (conv => whnf)))
  refine SLoopZ.by (fun q fr st => ∃ (i : Nat) (b : Bool) (es : List Str), i ≤ s.nodes.length ∧ q = s.nodes.length - i ∧ es = ((s.nodes.take i).filter f).map (·.name) ∧ (b = false → es = []) ∧ (b = true → es ≠ []) ∧
      fr = [(11, .i .i64 i), (10, .i .i64 (s.nodes.map nodeR).length), (5, accV b 2 1 (es.map strR)), (3, .p (.l 1) 0), (2, .p (.l 0) 0)] ∧
      st = accS b 2 [(1, .cs (podR p)), (0, .cs [.sl none 6 (s.nodes.map nodeR), .sl none 16 (s.pods.map podR)])])
    s.nodes.length ⟨_, _, ?_, 0, false, [], Nat.zero_le _, rfl, rfl, fun _ => rfl, (fun h => by cases h), rfl, rfl⟩ ?_
  · exact tL [0, 1]
  rintro q fr st ⟨i, b, es, hi, rfl, hes, hb, hb2, rfl, rfl⟩ R hR
  have hesl : es.length ≤ i := by
    rw [hes, List.length_map]
    exact Nat.le_trans (List.length_filter_le _ _) (List.length_take_le _ _)
  (conv => whnf)
  refine SIf.ds (fun hlt => ?_) (fun hge => ?_)
  · have hi' : i < s.nodes.length := by omega
    have he := List.getElem?_eq_getElem hi'
    have hmore : ∀ x ∈ es, lessS x s.nodes[i].name := by
      intro x hx
      rw [hes] at hx
      obtain ⟨n, hn, rfl⟩ := List.mem_map.1 hx
      obtain ⟨j, hj⟩ := List.mem_iff_getElem?.1 (List.mem_filter.1 hn).1
      have hji : j < i := by
        have := (List.getElem?_eq_some_iff.1 hj).1
        rw [List.length_take] at this
        omega
      rw [List.getElem?_take_of_lt hji] at hj
      exact pair_get hso hji hj he
    generalize s.nodes[i] = e at he hmore
    have h1 : f e = true → es ++ [e.name] = ((s.nodes.take (i + 1)).filter f).map (·.name) := fun h => by
      rw [take_succ' he, List.filter_append, List.map_append, ← hes]
      simp [h]
    have h0 : f e = false → es = ((s.nodes.take (i + 1)).filter f).map (·.name) := fun h => by
      rw [take_succ' he, List.filter_append, List.map_append, ← hes]
      simp [h]
    have hint : es.map strR ++ [strR e.name] = (es ++ [e.name]).map strR := by rw [List.map_append]; rfl
    have hc := rfeas_ok hG s p e.name hs hp
    have hfe : f e = feasD s p e.name := by rw [hf]
    rw [← hfe] at hc
    generalize f e = c at hc h1 h0
    cases c <;> cases b
    · obtain rfl : es = [] := hb rfl
      ((conv => whnf); repeat ((first | refine SCall.app (Pure.go hc rfl) ?_ | refine SEx.of (map_get' (by omega) he) ?_ | refine yf rfl ?_ | refine yt rfl ?_ | refine yo rfl ?_ | refine yc rfl ?_ | refine ys rfl ?_ | refine ye rfl ?_ | refine yn rfl ?_ | refine zw ?_ | refine zdt ?_ | refine zdf ?_ | refine znt ?_ | refine znf ?_ | refine zcd ?_ | refine zci ?_ | refine zc3 ?_) <;> (conv => whnf)))
      refine hR (s.nodes.length - (i + 1)) _ _ (by omega) ⟨_, _, ?_, i + 1, false, [], by omega, rfl, h0 rfl, (fun _ => rfl), (fun h => by cases h), rfl, rfl⟩
      exact tL [0, 1]
    · ((conv => whnf); repeat ((first | refine SCall.app (Pure.go hc rfl) ?_ | refine SEx.of (map_get' (by omega) he) ?_ | refine yf rfl ?_ | refine yt rfl ?_ | refine yo rfl ?_ | refine yc rfl ?_ | refine ys rfl ?_ | refine ye rfl ?_ | refine yn rfl ?_ | refine zw ?_ | refine zdt ?_ | refine zdf ?_ | refine znt ?_ | refine znf ?_ | refine zcd ?_ | refine zci ?_ | refine zc3 ?_) <;> (conv => whnf)))
      refine hR (s.nodes.length - (i + 1)) _ _ (by omega) ⟨_, _, ?_, i + 1, true, es, by omega, rfl, h0 rfl, (fun h => by cases h), hb2, rfl, rfl⟩
      exact tL [0, 1, 2]
    · obtain rfl : es = [] := hb rfl
      ((conv => whnf); repeat ((first | refine SCall.app (Pure.go hc rfl) ?_ | refine SEx.of (map_get' (by omega) he) ?_ | refine yf rfl ?_ | refine yt rfl ?_ | refine yo rfl ?_ | refine yc rfl ?_ | refine ys rfl ?_ | refine ye rfl ?_ | refine yn rfl ?_ | refine zw ?_ | refine zdt ?_ | refine zdf ?_ | refine znt ?_ | refine znf ?_ | refine zcd ?_ | refine zci ?_ | refine zc3 ?_ | refine SLoopZ.un rfl ?_) <;> (conv => whnf)))
      refine hR (s.nodes.length - (i + 1)) _ _ (by omega) ⟨_, _, ?_, i + 1, true, [] ++ [e.name], by omega, rfl, h1 rfl, (fun h => by cases h), (fun _ h => by cases h), rfl, rfl⟩
      exact tL [0, 1, 2]
    · ((conv => whnf); repeat ((first | refine SCall.app (Pure.go hc rfl) ?_ | refine SEx.of (map_get' (by omega) he) ?_ | refine yf rfl ?_ | refine yt rfl ?_ | refine yo rfl ?_ | refine yc rfl ?_ | refine ys rfl ?_ | refine ye rfl ?_ | refine yn rfl ?_ | refine zw ?_ | refine zdt ?_ | refine zdf ?_ | refine znt ?_ | refine znf ?_ | refine zcd ?_ | refine zci ?_ | refine zc3 ?_) <;> (conv => whnf)))
      refine SLoopZ.by (fun q fr st => ∃ k : Nat, k ≤ es.length ∧ q = es.length - k ∧
          fr = [(7, .i .i64 k), (6, .i .i64 i), (11, .i .i64 i), (10, .i .i64 (s.nodes.map nodeR).length), (5, accV true 2 1 (es.map strR)), (3, .p (.l 1) 0), (2, .p (.l 0) 0)] ∧
          st = accS true 2 [(1, .cs (podR p)), (0, .cs [.sl none 6 (s.nodes.map nodeR), .sl none 16 (s.pods.map podR)])])
        es.length ⟨_, _, ?_, 0, Nat.zero_le _, rfl, rfl, rfl⟩ ?_
      · exact tL [0, 1, 2]
      rintro q fr st ⟨k, hk, rfl, rfl, rfl⟩ R2 hR2
      have hem : (es.map strR).length = es.length := List.length_map _
      ((conv => whnf); repeat ((first | refine yf rfl ?_ | refine yt rfl ?_ | refine yo rfl ?_ | refine yc rfl ?_ | refine ys rfl ?_ | refine ye rfl ?_ | refine yn rfl ?_ | refine zw ?_ | refine zdt ?_ | refine zdf ?_ | refine znt ?_ | refine znf ?_ | refine zcd ?_ | refine zci ?_ | refine zc3 ?_) <;> (conv => whnf)))
      refine SIf.ds (fun hlt2 => ?_) (fun hge2 => ?_)
      · have hk' : k < es.length := by omega
        have hg := List.getElem?_eq_getElem hk'
        have hmk := hmore _ (List.getElem_mem hk')
        generalize es[k] = g at hg hmk
        ((conv => whnf); repeat ((first | refine SIf.tt hmk ?_ | refine SEx.of (map_get' (by omega) hg) ?_ | refine SEx.of (map_get' (by omega) he) ?_ | refine yf rfl ?_ | refine yt rfl ?_ | refine yo rfl ?_ | refine yc rfl ?_ | refine ys rfl ?_ | refine ye rfl ?_ | refine yn rfl ?_ | refine zw ?_ | refine zdt ?_ | refine zdf ?_ | refine znt ?_ | refine znf ?_ | refine zcd ?_ | refine zci ?_ | refine zc3 ?_) <;> (conv => whnf)))
        refine hR2 (es.length - (k + 1)) _ _ (by omega) ⟨_, _, ?_, k + 1, by omega, rfl, rfl, rfl⟩
        exact tL [0, 1, 2]
      · obtain rfl : k = es.length := by omega
        have hT : ((es.map strR).take ((es.length : Nat) : Int).toNat).drop (Int.toNat 0) = es.map strR := by
          rw [Int.toNat_natCast, List.take_of_length_le (by omega)]
          rfl
        have hD : (es.map strR).drop ((es.length : Nat) : Int).toNat = [] := by
          rw [Int.toNat_natCast]
          exact List.drop_eq_nil_of_le (by omega)
        cases hes2 : es with
        | nil => exact absurd hes2 (hb2 rfl)
        | cons y r =>
          rw [hes2] at hT hD hint h1 hem hesl
          ((conv => whnf); repeat ((first | refine SEx.of (congrArg some hT) ?_ | refine SEx.of (congrArg some hD) ?_ | refine SSame.mk (congrArg (V.sl (some (.l 2)) 1) hD.symm) ?_ | refine SEx.of (deep_map (R := strR) (fun _ => rfl) _) ?_ | refine SEx.of (congrArg some hint) ?_ | refine SChk.mk (by simp [roomOk] at *; omega) ?_ | refine SEx.of (map_get' (by omega) he) ?_ | refine yf rfl ?_ | refine yt rfl ?_ | refine yo rfl ?_ | refine yc rfl ?_ | refine ys rfl ?_ | refine ye rfl ?_ | refine yn rfl ?_ | refine zw ?_ | refine zdt ?_ | refine zdf ?_ | refine znt ?_ | refine znf ?_ | refine zcd ?_ | refine zci ?_ | refine zc3 ?_) <;> (conv => whnf)))
          refine hR (s.nodes.length - (i + 1)) _ _ (by omega) ⟨_, _, ?_, i + 1, true, y :: r ++ [e.name], by omega, rfl, h1 rfl, (fun h => by cases h), (fun _ h => by cases h), rfl, rfl⟩
          exact tL [0, 1, 4]
  · have hall : es = whereD s p := by
      rw [hes, List.take_of_length_le (by omega), hf]
      rfl
    rw [← hall]
    cases b
    · obtain rfl : es = [] := hb rfl
      ((conv => whnf); repeat ((first | refine yf rfl ?_ | refine yt rfl ?_ | refine yo rfl ?_ | refine yc rfl ?_ | refine ys rfl ?_ | refine ye rfl ?_ | refine yn rfl ?_ | refine zw ?_ | refine zdt ?_ | refine zdf ?_ | refine znt ?_ | refine znf ?_ | refine zcd ?_ | refine zci ?_ | refine zc3 ?_) <;> (conv => whnf)))
      exact pure_nil rfl
    · ((conv => whnf); repeat ((first | refine yf rfl ?_ | refine yt rfl ?_ | refine yo rfl ?_ | refine yc rfl ?_ | refine ys rfl ?_ | refine ye rfl ?_ | refine yn rfl ?_ | refine zw ?_ | refine zdt ?_ | refine zdf ?_ | refine znt ?_ | refine znf ?_ | refine zcd ?_ | refine zci ?_ | refine zc3 ?_) <;> (conv => whnf)))
      exact pure_tok rfl
end
end Go.Eng
