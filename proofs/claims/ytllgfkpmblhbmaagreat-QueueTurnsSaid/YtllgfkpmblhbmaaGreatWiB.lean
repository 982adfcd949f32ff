/-
A state with a pod, for every state and pod.
-/
import Derived.Test.YtllgfkpmblhbmaaGreatWiA
set_option linter.unusedVariables false
set_option linter.unusedSimpArgs false
namespace Go.Eng
open Go
/-- What slices.Insert is taken for, ahead of the end. -/
def InsOk (P : Program) (f : Nat) : Prop :=
  ∀ (l : List PodD) (i : Nat) (p : PodD) (a c : Nat) (h : Heap) (K : V → Heap → Prop), i < l.length → l.length * 248 + 1000 ≤ 140737488355328 → h.get a = some (.arr 16 (l.map podR)) → h.get c = some (.arr 16 [podR p]) → a ≠ c →
    K (.ms (.g h.next) 16 0 (l.length + 1)) ((h.remove a).push (.arr 16 ((l.take i ++ [p] ++ l.drop i).map podR))) → ACall P f [.ms (.g a) 16 0 l.length, .i .i64 i, .ms (.g c) 16 0 1] h K
theorem set_map {l : List PodD} {j : Nat} {p : PodD} {e : List V} (he : e = podR p) : (l.map podR).set j e = (l.set j p).map podR := by
  subst he
  apply List.ext_getElem?
  intro i
  by_cases h : j = i
  · subst h
    simp [List.getElem?_set]
  · simp [h]
section
variable {P : Program} (hG : FnsOk P AF.fns.get)
include hG
set_option maxHeartbeats 4000000 in
set_option maxRecDepth 10000 in
theorem with_nil (s : StD) (p : PodD) (h6 : s.nodes.length ≤ 1000) (hsm : Small s) (hp : PodRoom p) (hne : s.pods = []) : Pure P 18 [stV s, .agg (podR p)] (· = stV (putD s p)) := by
  obtain ⟨ns, ps⟩ := s
  dsimp only at *
  subst hne
  have hn := nodes_ok hG ⟨ns, []⟩ h6 hsm
  have hc := copyPod_ok hG p hp
  refine pure_fn (hG _ AF.f18 rfl) rfl ?_
  ((conv => whnf); repeat ((first | refine SCall.app (Pure.go hn rfl) ?_ | refine SCall.app (Pure.go hc rfl) ?_ | refine SCall.app (fn_sf (hG _ _ rfl) rfl) ?_ | refine SLoopB.un rfl ?_ | refine yf rfl ?_ | refine yt rfl ?_ | refine yo rfl ?_ | refine yc rfl ?_ | refine ys rfl ?_ | refine ye rfl ?_ | refine yn rfl ?_ | refine zw ?_ | refine zdt ?_ | refine zdf ?_ | refine znt ?_ | refine znf ?_ | refine zcd ?_ | refine zci ?_ | refine zc3 ?_ | refine SLoopZ.un rfl ?_) <;> (conv => whnf)))
  refine pure_aggm (es := [podR p]) (a := 0) (n := 1) (ds := [podR p]) rfl rfl (Nat.le_refl _) ?_
  rfl
set_option maxHeartbeats 8000000 in
set_option maxRecDepth 10000 in
theorem with_some (s : StD) (p : PodD) (h6 : s.nodes.length ≤ 1000) (hs : s.ok) (hsm : Small s) (hr : ∀ q ∈ s.pods, PodRoom q) (hp : PodRoom p) (hne : s.pods ≠ []) (j : Nat) (hfi : s.pods.findIdx? (fun q => q.name == p.name) = some j) :
    Pure P 18 [stV s, .agg (podR p)] (· = stV (putD s p)) := by
  have hlm : (s.pods.map podR).length = s.pods.length := List.length_map _
  have hl := hs.pods
  unfold LenOk at hl
  have hw := without_made hG s h6 hs hsm hr hne
  have hc := copyPod_ok hG p hp
  have hput : putD s p = ⟨s.nodes, s.pods.set j p⟩ := by unfold putD putL; rw [hfi]
  rw [hput]
  have hj : j < s.pods.length := by
    rw [List.findIdx?_eq_some_iff_getElem] at hfi
    exact hfi.1
  have he := List.getElem?_eq_getElem hj
  generalize s.pods[j] = e at he
  refine pure_fn (hG _ AF.f18 rfl) rfl ?_
  ((conv => whnf); repeat ((first | refine SCall.app (Made.state (ACall.less (by ((repeat (first | exact trivial | refine ⟨by first | exact ce1_free rfl | exact .inl .nil | exact .inl .tok | exact .inl (.rows (by ((repeat (first | exact .nil | refine .cons (by ((repeat (first | exact .nil | refine .cons (by first | exact .refl _ | exact .nil _) ?_)); first | done | fail)) ?_)); first | done | fail))) | exact .inr (.inl ⟨_, _, rfl, rfl, (by ((repeat (first | exact trivial | refine ⟨by first | exact ce_flat rfl | exact .nil | exact .tok | exact .ren rfl (Nat.le_of_ble_eq_true rfl) | exact .rows (by ((repeat (first | exact .nil | refine .cons (by ((repeat (first | exact .nil | refine .cons (by first | exact .refl _ | exact .nil _) ?_)); first | done | fail)) ?_)); first | done | fail)), ?_⟩)); first | done | fail))⟩), ?_⟩)); first | done | fail)) hw) rfl) ?_ | refine SCall.app (Pure.go hc rfl) ?_ | refine SCall.app (ixm_pod (hG _ AF.f62 rfl) hl rfl (fun e he K hK => sameName_ok hG rfl hK) j (ixRes_some hfi)) ?_ | refine SEx.of (map_get' (by omega) he) ?_ | refine yf rfl ?_ | refine yt rfl ?_ | refine yo rfl ?_ | refine yc rfl ?_ | refine ys rfl ?_ | refine ye rfl ?_ | refine yn rfl ?_ | refine zw ?_ | refine zdt ?_ | refine zdf ?_ | refine znt ?_ | refine znf ?_ | refine zcd ?_ | refine zci ?_ | refine zc3 ?_) <;> (conv => whnf)))
  refine pure_aggm (ds := (s.pods.set j p).map podR) rfl ?_ (by simp) ?_
  · show deepElems ((s.pods.map podR).set (0 + j) (podR p)) = _
    rw [Nat.zero_add, set_map rfl]
    exact deep_map (fun _ => rfl) _
  · rw [List.drop_zero, List.take_of_length_le (by simp)]
    rfl
set_option maxHeartbeats 8000000 in
set_option maxRecDepth 10000 in
theorem with_none (hI : InsOk P 64) (s : StD) (p : PodD) (h6 : s.nodes.length ≤ 1000) (hs : s.ok) (hsm : Small s) (hr : ∀ q ∈ s.pods, PodRoom q) (hp : PodRoom p) (hne : s.pods ≠ []) (hroom : s.pods.length * 248 + 1000 ≤ 140737488355328) (hfi : s.pods.findIdx? (fun q => q.name == p.name) = none) :
    Pure P 18 [stV s, .agg (podR p)] (· = stV (putD s p)) := by
  have hlm : (s.pods.map podR).length = s.pods.length := List.length_map _
  have hl := hs.pods
  unfold LenOk at hl
  have hw := without_made hG s h6 hs hsm hr hne
  have hc := copyPod_ok hG p hp
  have hput : ∀ i, (s.pods.takeWhile fun q => Op.bytesLess q.name p.name).length = i → putD s p = ⟨s.nodes, s.pods.take i ++ [p] ++ s.pods.drop i⟩ := fun i hi => by unfold putD putL; rw [hfi, ← hi]
  refine pure_fn (hG _ AF.f18 rfl) rfl ?_
  ((conv => whnf); repeat ((first | refine SCall.app (Made.state (ACall.less (by ((repeat (first | exact trivial | refine ⟨by first | exact ce1_free rfl | exact .inl .nil | exact .inl .tok | exact .inl (.rows (by ((repeat (first | exact .nil | refine .cons (by ((repeat (first | exact .nil | refine .cons (by first | exact .refl _ | exact .nil _) ?_)); first | done | fail)) ?_)); first | done | fail))) | exact .inr (.inl ⟨_, _, rfl, rfl, (by ((repeat (first | exact trivial | refine ⟨by first | exact ce_flat rfl | exact .nil | exact .tok | exact .ren rfl (Nat.le_of_ble_eq_true rfl) | exact .rows (by ((repeat (first | exact .nil | refine .cons (by ((repeat (first | exact .nil | refine .cons (by first | exact .refl _ | exact .nil _) ?_)); first | done | fail)) ?_)); first | done | fail)), ?_⟩)); first | done | fail))⟩), ?_⟩)); first | done | fail)) hw) rfl) ?_ | refine SCall.app (Pure.go hc rfl) ?_ | refine SCall.app (ixm_pod (hG _ AF.f62 rfl) hl rfl (fun e he K hK => sameName_ok hG rfl hK) (-1) (ixRes_none hfi)) ?_ | refine yf rfl ?_ | refine yt rfl ?_ | refine yo rfl ?_ | refine yc rfl ?_ | refine ys rfl ?_ | refine ye rfl ?_ | refine yn rfl ?_ | refine zw ?_ | refine zdt ?_ | refine zdf ?_ | refine znt ?_ | refine znf ?_ | refine zcd ?_ | refine zci ?_ | refine zc3 ?_) <;> (conv => whnf)))
  refine SLoopZ.by (fun q fr st => ∃ i : Nat, i ≤ s.pods.length ∧ q = s.pods.length - i ∧ (∀ (j : Nat) (x : PodD), j < i → s.pods[j]? = some x → Op.bytesLess x.name p.name = true) ∧
      fr = [(7, .i .i64 i), (5, .p (.l 1) 0), (4, .p (.l 0) 0), (3, .p (.g 0) 0)] ∧
      st = ⟨⟨2, [(1, .arr 16 (s.pods.map podR)), (0, .cs (podR p))]⟩, ⟨2, [(1, .cs [.sl none 6 (s.nodes.map nodeR), .ms (.g 1) 16 0 s.pods.length]), (0, .cs [.nils, .nils])]⟩⟩)
    s.pods.length ⟨_, _, ?_, 0, Nat.zero_le _, rfl, (fun j x h => absurd h (Nat.not_lt_zero _)), rfl, rfl⟩ ?_
  · exact tG [0, 1] [1, 2]
  rintro q fr st ⟨i, hi, rfl, hb, rfl, rfl⟩ R hR
  ((conv => whnf); repeat ((first | refine yf rfl ?_ | refine yt rfl ?_ | refine yo rfl ?_ | refine yc rfl ?_ | refine ys rfl ?_ | refine ye rfl ?_ | refine yn rfl ?_ | refine zw ?_ | refine zdt ?_ | refine zdf ?_ | refine znt ?_ | refine znf ?_ | refine zcd ?_ | refine zci ?_ | refine zc3 ?_) <;> (conv => whnf)))
  refine SIf.ds (fun hlt => ?_) (fun hge => ?_)
  · have hi' : i < s.pods.length := by omega
    have he := List.getElem?_eq_getElem hi'
    generalize s.pods[i] = e at he
    cases hlss : Op.bytesLess e.name p.name
    · ((conv => whnf); repeat ((first | refine SIf.ff hlss ?_ | refine SEx.of (map_get' (by omega) he) ?_ | refine yf rfl ?_ | refine yt rfl ?_ | refine yo rfl ?_ | refine yc rfl ?_ | refine ys rfl ?_ | refine ye rfl ?_ | refine yn rfl ?_ | refine zw ?_ | refine zdt ?_ | refine zdf ?_ | refine znt ?_ | refine znf ?_ | refine zcd ?_ | refine zci ?_ | refine zc3 ?_) <;> (conv => whnf)))
      refine SCall.app (hI s.pods i p 1 2 _ _ hi' hroom rfl rfl (by decide)) ?_
      ((conv => whnf); repeat ((first | refine yf rfl ?_ | refine yt rfl ?_ | refine yo rfl ?_ | refine yc rfl ?_ | refine ys rfl ?_ | refine ye rfl ?_ | refine yn rfl ?_ | refine zw ?_ | refine zdt ?_ | refine zdf ?_ | refine znt ?_ | refine znf ?_ | refine zcd ?_ | refine zci ?_ | refine zc3 ?_) <;> (conv => whnf)))
      refine pure_aggm (ds := (s.pods.take i ++ [p] ++ s.pods.drop i).map podR) rfl (deep_map (fun _ => rfl) _) (by simp; omega) ?_
      rw [hput i (takeWhile_at hi hb (fun x hx => by rw [he] at hx; cases hx; exact hlss)), List.drop_zero, List.take_of_length_le (by simp; omega)]
      rfl
    · ((conv => whnf); repeat ((first | refine SIf.tt hlss ?_ | refine SEx.of (map_get' (by omega) he) ?_ | refine yf rfl ?_ | refine yt rfl ?_ | refine yo rfl ?_ | refine yc rfl ?_ | refine ys rfl ?_ | refine ye rfl ?_ | refine yn rfl ?_ | refine zw ?_ | refine zdt ?_ | refine zdf ?_ | refine znt ?_ | refine znf ?_ | refine zcd ?_ | refine zci ?_ | refine zc3 ?_) <;> (conv => whnf)))
      refine hR (s.pods.length - (i + 1)) _ _ (by omega) ⟨_, _, ?_, i + 1, by omega, rfl, (fun j x hj hx => ?_), rfl, rfl⟩
      · exact tG [0, 1] [0, 1]
      · by_cases hji : j < i
        · exact hb j x hji hx
        · obtain rfl : j = i := by omega
          rw [he] at hx; cases hx; exact hlss
  · obtain rfl : i = s.pods.length := by omega
    ((conv => whnf); repeat ((first | refine SCall.app (fn_sf (hG _ _ rfl) rfl) ?_ | refine SChk.mk (by simp [roomOk]; omega) ?_ | refine SIf.df (by simp only [List.length_cons, List.length_nil, List.length_map]; omega) ?_ | refine yf rfl ?_ | refine yt rfl ?_ | refine yo rfl ?_ | refine yc rfl ?_ | refine ys rfl ?_ | refine ye rfl ?_ | refine yn rfl ?_ | refine zw ?_ | refine zdt ?_ | refine zdf ?_ | refine znt ?_ | refine znf ?_ | refine zcd ?_ | refine zci ?_ | refine zc3 ?_) <;> (conv => whnf)))
    refine pure_aggm (ds := (s.pods ++ [p]).map podR) rfl ((congrArg deepElems (acc_step rfl)).trans (deep_map (fun _ => rfl) _)) (by simp) ?_
    rw [hput _ (takeWhile_at hi hb (fun x hx => by simp at hx)), List.drop_zero, List.take_of_length_le (by simp), List.take_of_length_le (Nat.le_refl _), List.drop_of_length_le (Nat.le_refl _), List.append_nil]
    rfl
/-- (WITH) -/
theorem with_ok (hI : InsOk P 64) (s : StD) (p : PodD) (h6 : s.nodes.length ≤ 1000) (hs : s.ok) (hsm : Small s) (hr : ∀ q ∈ s.pods, PodRoom q) (hp : PodRoom p) (hroom : s.pods.length * 248 + 1000 ≤ 140737488355328) :
    Pure P 18 [stV s, .agg (podR p)] (· = stV (putD s p)) := by
  by_cases hne : s.pods = []
  · exact with_nil hG s p h6 hsm hp hne
  · cases hfi : s.pods.findIdx? (fun q => q.name == p.name) with
    | none => exact with_none hG hI s p h6 hs hsm hr hp hne hroom hfi
    | some j => exact with_some hG s p h6 hs hsm hr hp hne j hfi
end
end Go.Eng
