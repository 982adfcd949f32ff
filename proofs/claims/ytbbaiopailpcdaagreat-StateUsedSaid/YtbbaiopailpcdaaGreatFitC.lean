/-
One node alone: what is used, room, ports, what is wanted, what is borne.
-/
import Derived.Test.YtbbaiopailpcdaaGreatFitA
set_option linter.unusedVariables false
set_option linter.unusedSimpArgs false
namespace Go.Eng
open Go
def onD (s : StD) (node : Str) : List PodD := s.pods.filter fun p => p.node == node && !(node == [])
def usedD (s : StD) (node : Str) : Option ResD := sumD ⟨0, 0, 0⟩ ((onD s node).map (·.req))
section
variable {P : Program} (hG : FnsOk P AF.fns.get)
include hG
set_option maxHeartbeats 1000000 in
theorem used_ok (s : StD) (node : Str) (hl : LenOk s.pods) (hs : s.pods.length * 24 ≤ 140737488355328) (hr : ∀ p ∈ s.pods, p.req.ok) : Pure P 20 [stV s, .s node] (· = resO (usedD s node)) := by
  have hlm : (s.pods.map podR).length = s.pods.length := List.length_map _
  unfold LenOk at hl
  obtain ⟨f, hf⟩ : ∃ f : PodD → Bool, f = fun p => p.node == node && !(node == []) := ⟨_, rfl⟩
  refine pure_fn (hG _ AF.f20 rfl) rfl ?_
  ((conv => whnf); repeat ((first | refine yf rfl ?_ | refine yt rfl ?_ | refine yo rfl ?_ | refine yc rfl ?_ | refine ys rfl ?_ | refine ye rfl ?_ | refine yn rfl ?_ | refine zw ?_ | refine zdt ?_ | refine zdf ?_ | refine znt ?_ | refine znf ?_ | refine zcd ?_ | refine zci ?_ | refine zc3 ?_) <;> (conv => whnf)))
  refine SLoopZ.by (fun q fr st => ∃ (i : Nat) (b : Bool) (es : List ResD), i ≤ s.pods.length ∧ q = s.pods.length - i ∧ es = ((s.pods.take i).filter f).map (·.req) ∧ (b = false → es = []) ∧
      fr = [(12, .i .i64 i), (11, .i .i64 (s.pods.map podR).length), (10, .sl none 16 (s.pods.map podR)), (6, accV b 1 3 (es.map resR)), (4, .p (.l 0) 0), (1, .s node)] ∧ st = accS b 1 [(0, .cs (resR ⟨0, 0, 0⟩))])
    s.pods.length ⟨_, _, ?_, 0, false, [], Nat.zero_le _, rfl, rfl, fun _ => rfl, rfl, rfl⟩ ?_
  · exact tL [1]
  rintro q fr st ⟨i, b, es, hi, rfl, hes, hb, rfl, rfl⟩ R hR
  have hesl : es.length ≤ i := by
    rw [hes, List.length_map]
    exact Nat.le_trans (List.length_filter_le _ _) (List.length_take_le _ _)
  (conv => whnf)
  refine SIf.ds (fun hlt => ?_) (fun hge => ?_)
  · have hi' : i < s.pods.length := by omega
    have he := List.getElem?_eq_getElem hi'
    generalize s.pods[i] = e at he
    have h1 : f e = true → es ++ [e.req] = ((s.pods.take (i + 1)).filter f).map (·.req) := fun h => by
      rw [take_succ' he, List.filter_append, List.map_append, ← hes]
      simp [h]
    have h0 : f e = false → es = ((s.pods.take (i + 1)).filter f).map (·.req) := fun h => by
      rw [take_succ' he, List.filter_append, List.map_append, ← hes]
      simp [h]
    cases b
    · obtain rfl : es = [] := hb rfl
      ((conv => whnf); repeat' ((first | refine SEx.of (map_get' (by simp) he) ?_ | refine yf rfl ?_ | refine yt rfl ?_ | refine yo rfl ?_ | refine yc rfl ?_ | refine ys rfl ?_ | refine ye rfl ?_ | refine yn rfl ?_ | refine zw ?_ | refine zdt ?_ | refine zdf ?_ | refine znt ?_ | refine znf ?_ | refine zcd ?_ | refine zci ?_ | refine zc3 ?_ | refine SIf.ds (fun _ => ?_) (fun _ => ?_) | refine SIf.ns (fun _ => ?_) (fun _ => ?_) | refine SIf.mk (fun _ => ?_) (fun _ => ?_) | (intro r hr; cases r)) <;> (conv => whnf)))
      · refine hR (s.pods.length - (i + 1)) _ _ (by omega) ⟨_, _, ?_, i + 1, true, [] ++ [e.req], by omega, rfl, h1 (by rw [hf]; simp_all), (fun h => by cases h), rfl, rfl⟩
        exact tL [0, 3]
      · refine hR (s.pods.length - (i + 1)) _ _ (by omega) ⟨_, _, ?_, i + 1, false, [], by omega, rfl, h0 (by rw [hf]; simp_all), fun _ => rfl, rfl, rfl⟩
        exact tL [0]
      · refine hR (s.pods.length - (i + 1)) _ _ (by omega) ⟨_, _, ?_, i + 1, false, [], by omega, rfl, h0 (by rw [hf]; simp_all), fun _ => rfl, rfl, rfl⟩
        exact tL [0]
    · ((conv => whnf); repeat' ((first | refine SEx.of (x := (es ++ [e.req]).map resR) (by rw [List.map_append]; rfl) ?_ | refine SChk.mk (by simp [roomOk]; omega) ?_ | refine SEx.of (map_get' (by simp) he) ?_ | refine yf rfl ?_ | refine yt rfl ?_ | refine yo rfl ?_ | refine yc rfl ?_ | refine ys rfl ?_ | refine ye rfl ?_ | refine yn rfl ?_ | refine zw ?_ | refine zdt ?_ | refine zdf ?_ | refine znt ?_ | refine znf ?_ | refine zcd ?_ | refine zci ?_ | refine zc3 ?_ | refine SIf.ds (fun _ => ?_) (fun _ => ?_) | refine SIf.ns (fun _ => ?_) (fun _ => ?_) | refine SIf.mk (fun _ => ?_) (fun _ => ?_) | (intro r hr; cases r)) <;> (conv => whnf)))
      · refine hR (s.pods.length - (i + 1)) _ _ (by omega) ⟨_, _, ?_, i + 1, true, es ++ [e.req], by omega, rfl, h1 (by rw [hf]; simp_all), (fun h => by cases h), rfl, rfl⟩
        exact tL [0, 4]
      · refine hR (s.pods.length - (i + 1)) _ _ (by omega) ⟨_, _, ?_, i + 1, true, es, by omega, rfl, h0 (by rw [hf]; simp_all), (fun h => by cases h), rfl, rfl⟩
        exact tL [0, 1]
      · refine hR (s.pods.length - (i + 1)) _ _ (by omega) ⟨_, _, ?_, i + 1, true, es, by omega, rfl, h0 (by rw [hf]; simp_all), (fun h => by cases h), rfl, rfl⟩
        exact tL [0, 1]
  · have hall : es = (onD s node).map (·.req) := by
      rw [hes, List.take_of_length_le (by omega), hf]
      rfl
    have hel : LenOk es := by unfold LenOk; omega
    have her : ∀ r ∈ es, r.ok := by
      rw [hall]
      intro r hr'
      obtain ⟨p, hp, rfl⟩ := List.mem_map.1 hr'
      exact hr p (List.mem_filter.1 hp).1
    have hsum := sum_ok hG es hel her
    cases b
    · obtain rfl : es = [] := hb rfl
      rw [usedD, ← hall]
      cases hq : sumD ⟨0, 0, 0⟩ [] <;> rw [hq] at hsum
      all_goals ((conv => whnf); repeat ((first | refine SCall.app (Pure.call1 hsum (by ((repeat (first | exact trivial | refine ⟨by first | exact ce1_free rfl | exact .inl .nil | exact .inl .tok | exact .inl (.rows (by ((repeat (first | exact .nil | refine .cons (by ((repeat (first | exact .nil | refine .cons (by first | exact .refl _ | exact .nil _) ?_)); first | done | fail)) ?_)); first | done | fail))) | exact .inr (.inl ⟨_, _, rfl, rfl, (by ((repeat (first | exact trivial | refine ⟨by first | exact ce_flat rfl | exact .nil | exact .tok | exact .ren rfl (Nat.le_of_ble_eq_true rfl) | exact .rows (by ((repeat (first | exact .nil | refine .cons (by ((repeat (first | exact .nil | refine .cons (by first | exact .refl _ | exact .nil _) ?_)); first | done | fail)) ?_)); first | done | fail)), ?_⟩)); first | done | fail))⟩), ?_⟩)); first | done | fail)) rfl) ?_ | refine yf rfl ?_ | refine yt rfl ?_ | refine yo rfl ?_ | refine yc rfl ?_ | refine ys rfl ?_ | refine ye rfl ?_ | refine yn rfl ?_ | refine zw ?_ | refine zdt ?_ | refine zdf ?_ | refine znt ?_ | refine znf ?_ | refine zcd ?_ | refine zci ?_ | refine zc3 ?_) <;> (conv => whnf)))
      all_goals exact pure_free rfl rfl
    · rw [usedD, ← hall]
      cases hq : sumD ⟨0, 0, 0⟩ es <;> rw [hq] at hsum
      all_goals ((conv => whnf); repeat ((first | refine SCall.app (Pure.call1 hsum (by ((repeat (first | exact trivial | refine ⟨by first | exact ce1_free rfl | exact .inl .nil | exact .inl .tok | exact .inl (.rows (by ((repeat (first | exact .nil | refine .cons (by ((repeat (first | exact .nil | refine .cons (by first | exact .refl _ | exact .nil _) ?_)); first | done | fail)) ?_)); first | done | fail))) | exact .inr (.inl ⟨_, _, rfl, rfl, (by ((repeat (first | exact trivial | refine ⟨by first | exact ce_flat rfl | exact .nil | exact .tok | exact .ren rfl (Nat.le_of_ble_eq_true rfl) | exact .rows (by ((repeat (first | exact .nil | refine .cons (by ((repeat (first | exact .nil | refine .cons (by first | exact .refl _ | exact .nil _) ?_)); first | done | fail)) ?_)); first | done | fail)), ?_⟩)); first | done | fail))⟩), ?_⟩)); first | done | fail)) rfl) ?_ | refine yf rfl ?_ | refine yt rfl ?_ | refine yo rfl ?_ | refine yc rfl ?_ | refine ys rfl ?_ | refine ye rfl ?_ | refine yn rfl ?_ | refine zw ?_ | refine zdt ?_ | refine zdf ?_ | refine znt ?_ | refine znf ?_ | refine zcd ?_ | refine zci ?_ | refine zc3 ?_) <;> (conv => whnf)))
      all_goals exact pure_free rfl rfl
end
end Go.Eng
