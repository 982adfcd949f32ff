/-
A pod by its name.
-/
import Derived.Test.YtllgfkpmblhbmaaGreatWiA
import Derived.Test.YtllgfkpmblhbmaaGreatFitD
set_option linter.unusedVariables false
set_option linter.unusedSimpArgs false
namespace Go.Eng
open Go
section
variable {P : Program} (hG : FnsOk P AF.fns.get)
include hG
set_option maxHeartbeats 4000000 in
set_option maxRecDepth 10000 in
theorem statePod_ok (s : StD) (name : Str) (hl : LenOk s.pods) (hs : ∀ q ∈ s.pods, PodRoom q) : Pure P 107 [stV s, .s name] (· = podO (s.pods.find? fun p => p.name == name)) := by
  have hlm : (s.pods.map podR).length = s.pods.length := List.length_map _
  unfold LenOk at hl
  refine pure_fn (hG _ AF.f107 rfl) rfl ?_
  ((conv => whnf); repeat ((first | refine yf rfl ?_ | refine yt rfl ?_ | refine yo rfl ?_ | refine yc rfl ?_ | refine ys rfl ?_ | refine ye rfl ?_ | refine yn rfl ?_ | refine zw ?_ | refine zdt ?_ | refine zdf ?_ | refine znt ?_ | refine znf ?_ | refine zcd ?_ | refine zci ?_ | refine zc3 ?_) <;> (conv => whnf)))
  refine SLoopZ.by (fun q fr st => ∃ i : Nat, i ≤ s.pods.length ∧ q = s.pods.length - i ∧ NoneYet (fun p => p.name == name) s.pods i ∧
      fr = [(11, .i .i64 i), (10, .i .i64 (s.pods.map podR).length), (9, .sl none 16 (s.pods.map podR)), (4, .p (.l 0) 0), (1, .s name)] ∧ st = ⟨noG, ⟨1, [(0, .cs (podR podZ))]⟩⟩)
    s.pods.length ⟨_, _, ?_, 0, Nat.zero_le _, rfl, NoneYet.zero, rfl, rfl⟩ ?_
  · exact tL [1]
  rintro q fr st ⟨i, hi, rfl, hok, rfl, rfl⟩ R hR
  (conv => whnf)
  refine SIf.ds (fun hlt => ?_) (fun hge => ?_)
  · have hi' : i < s.pods.length := by omega
    have he := List.getElem?_eq_getElem hi'
    have hm := List.getElem_mem hi'
    generalize s.pods[i] = e at he hm
    have hc := copyPod_ok hG e (hs e hm)
    ((conv => whnf); repeat ((first | refine SEx.of (map_get' (by omega) he) ?_ | refine yf rfl ?_ | refine yt rfl ?_ | refine yo rfl ?_ | refine yc rfl ?_ | refine ys rfl ?_ | refine ye rfl ?_ | refine yn rfl ?_ | refine zw ?_ | refine zdt ?_ | refine zdf ?_ | refine znt ?_ | refine znf ?_ | refine zcd ?_ | refine zci ?_ | refine zc3 ?_) <;> (conv => whnf)))
    refine SIf.mk (fun hp => ?_) (fun hp => ?_)
    · ((conv => whnf); repeat ((first | refine SCall.app (Pure.go hc rfl) ?_ | refine yf rfl ?_ | refine yt rfl ?_ | refine yo rfl ?_ | refine yc rfl ?_ | refine ys rfl ?_ | refine ye rfl ?_ | refine yn rfl ?_ | refine zw ?_ | refine zdt ?_ | refine zdf ?_ | refine znt ?_ | refine znf ?_ | refine zcd ?_ | refine zci ?_ | refine zc3 ?_) <;> (conv => whnf)))
      rw [find_some he hp hok]
      exact pure_free rfl rfl
    · ((conv => whnf); repeat ((first | refine yf rfl ?_ | refine yt rfl ?_ | refine yo rfl ?_ | refine yc rfl ?_ | refine ys rfl ?_ | refine ye rfl ?_ | refine yn rfl ?_ | refine zw ?_ | refine zdt ?_ | refine zdf ?_ | refine znt ?_ | refine znf ?_ | refine zcd ?_ | refine zci ?_ | refine zc3 ?_) <;> (conv => whnf)))
      refine hR (s.pods.length - (i + 1)) _ _ (by omega) ⟨_, _, ?_, i + 1, by omega, rfl, hok.succ he hp, rfl, rfl⟩
      exact tL [0]
  · ((conv => whnf); repeat ((first | refine yf rfl ?_ | refine yt rfl ?_ | refine yo rfl ?_ | refine yc rfl ?_ | refine ys rfl ?_ | refine ye rfl ?_ | refine yn rfl ?_ | refine zw ?_ | refine zdt ?_ | refine zdf ?_ | refine znt ?_ | refine znf ?_ | refine zcd ?_ | refine zci ?_ | refine zc3 ?_) <;> (conv => whnf)))
    rw [find_none (hok.all (by omega))]
    exact pure_tup1 (ds := podR podZ) (by ((repeat (first | exact trivial | refine ⟨by first | exact ce_flat rfl | exact .nil | exact .tok | exact .ren rfl (Nat.le_of_ble_eq_true rfl) | exact .rows (by ((repeat (first | exact .nil | refine .cons (by ((repeat (first | exact .nil | refine .cons (by first | exact .refl _ | exact .nil _) ?_)); first | done | fail)) ?_)); first | done | fail)), ?_⟩)); first | done | fail)) rfl rfl
end
end Go.Eng
