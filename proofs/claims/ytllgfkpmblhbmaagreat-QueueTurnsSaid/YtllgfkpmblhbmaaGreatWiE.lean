/-
Two states without nodes: the same?
-/
import Derived.Test.YtllgfkpmblhbmaaGreatWiC
import Derived.Test.YtllgfkpmblhbmaaGreatFit4
set_option linter.unusedVariables false
set_option linter.unusedSimpArgs false
namespace Go.Eng
open Go
section
variable {P : Program} (hG : FnsOk P AF.fns.get)
include hG
set_option maxHeartbeats 4000000 in
theorem eqf_pod (l m : List PodD) (hl : LenOk l) (hm : LenOk m) (ol : ∀ x ∈ l, PodD.ok x) (om : ∀ x ∈ m, PodD.ok x) : Pure P 127 [.sl none 16 (l.map podR), .sl none 16 (m.map podR), .fn 128 [] []] (· = .b (decide (l = m))) := by
  have h1 : (l.map podR).length = l.length := List.length_map _
  have h2 : (m.map podR).length = m.length := List.length_map _
  unfold LenOk at hl hm
  refine pure_fn (hG _ AF.f127 rfl) rfl ?_
  ((conv => whnf); repeat ((first | refine yf rfl ?_ | refine yt rfl ?_ | refine yo rfl ?_ | refine yc rfl ?_ | refine ys rfl ?_ | refine ye rfl ?_ | refine yn rfl ?_ | refine zw ?_ | refine zdt ?_ | refine zdf ?_ | refine znt ?_ | refine znf ?_ | refine zcd ?_ | refine zci ?_ | refine zc3 ?_) <;> (conv => whnf)))
  refine SIf.mk (fun hne => ?_) (fun hne => ?_)
  · ((conv => whnf); repeat ((first | refine yf rfl ?_ | refine yt rfl ?_ | refine yo rfl ?_ | refine yc rfl ?_ | refine ys rfl ?_ | refine ye rfl ?_ | refine yn rfl ?_ | refine zw ?_ | refine zdt ?_ | refine zdf ?_ | refine znt ?_ | refine znf ?_ | refine zcd ?_ | refine zci ?_ | refine zc3 ?_) <;> (conv => whnf)))
    refine pure_free rfl ?_
    rw [decide_eq_false]
    rintro rfl
    simp at hne
  have hne : l.length = m.length := by simp [h1, h2] at hne; omega
  ((conv => whnf); repeat ((first | refine yf rfl ?_ | refine yt rfl ?_ | refine yo rfl ?_ | refine yc rfl ?_ | refine ys rfl ?_ | refine ye rfl ?_ | refine yn rfl ?_ | refine zw ?_ | refine zdt ?_ | refine zdf ?_ | refine znt ?_ | refine znf ?_ | refine zcd ?_ | refine zci ?_ | refine zc3 ?_) <;> (conv => whnf)))
  refine SLoopZ.by (fun q fr st => ∃ i : Nat, i ≤ l.length ∧ q = l.length - i ∧ SameYet l m i ∧ fr = [(17, .i .i64 i), (16, .i .i64 (l.map podR).length), (15, .sl none 16 (l.map podR)), (2, .fn 128 [] []), (1, .sl none 16 (m.map podR))] ∧ st = gst noG)
    l.length ⟨_, _, ?_, 0, Nat.zero_le _, rfl, SameYet.zero, rfl, rfl⟩ ?_
  · exact tL0
  rintro q fr st ⟨i, hi, rfl, hok, rfl, rfl⟩ R hR
  (conv => whnf)
  refine SIf.ds (fun hlt => ?_) (fun hge => ?_)
  · have hi' : i < l.length := by omega
    have he := List.getElem?_eq_getElem hi'
    have hf := List.getElem?_eq_getElem (by omega : i < m.length)
    have oe := ol _ (List.getElem_mem hi')
    have of := om _ (List.getElem_mem (by omega : i < m.length))
    generalize l[i] = e at he oe
    generalize m[i]'(by omega) = f at hf of
    ((conv => whnf); repeat ((first | refine SCall.app (Pure.go (eqPod_ok hG e f oe of) rfl) ?_ | refine SEx.of (map_get' (by simp) he) ?_ | refine SEx.of (map_get' (by simp) hf) ?_ | refine yf rfl ?_ | refine yt rfl ?_ | refine yo rfl ?_ | refine yc rfl ?_ | refine ys rfl ?_ | refine ye rfl ?_ | refine yn rfl ?_ | refine zw ?_ | refine zdt ?_ | refine zdf ?_ | refine znt ?_ | refine znf ?_ | refine zcd ?_ | refine zci ?_ | refine zc3 ?_) <;> (conv => whnf)))
    refine SIf.mk (fun hp => ?_) (fun hp => ?_)
    · ((conv => whnf); repeat ((first | refine yf rfl ?_ | refine yt rfl ?_ | refine yo rfl ?_ | refine yc rfl ?_ | refine ys rfl ?_ | refine ye rfl ?_ | refine yn rfl ?_ | refine zw ?_ | refine zdt ?_ | refine zdf ?_ | refine znt ?_ | refine znf ?_ | refine zcd ?_ | refine zci ?_ | refine zc3 ?_) <;> (conv => whnf)))
      refine pure_free rfl ?_
      rw [decide_eq_false (ne_at he hf (by rintro rfl; simp at hp))]
    · ((conv => whnf); repeat ((first | refine yf rfl ?_ | refine yt rfl ?_ | refine yo rfl ?_ | refine yc rfl ?_ | refine ys rfl ?_ | refine ye rfl ?_ | refine yn rfl ?_ | refine zw ?_ | refine zdt ?_ | refine zdf ?_ | refine znt ?_ | refine znf ?_ | refine zcd ?_ | refine zci ?_ | refine zc3 ?_) <;> (conv => whnf)))
      refine hR (l.length - (i + 1)) _ _ (by omega) ⟨_, _, ?_, i + 1, by omega, rfl, hok.succ he hf (by simpa using hp), rfl, rfl⟩
      exact tL0
  · ((conv => whnf); repeat ((first | refine yf rfl ?_ | refine yt rfl ?_ | refine yo rfl ?_ | refine yc rfl ?_ | refine ys rfl ?_ | refine ye rfl ?_ | refine yn rfl ?_ | refine zw ?_ | refine zdt ?_ | refine zdf ?_ | refine znt ?_ | refine znf ?_ | refine zcd ?_ | refine zci ?_ | refine zc3 ?_) <;> (conv => whnf)))
    refine pure_free rfl ?_
    rw [decide_eq_true (hok.all hne (by omega))]
set_option maxHeartbeats 1000000 in
theorem eqf_node0 : Pure P 125 [.sl none 6 [], .sl none 6 [], .fn 126 [] []] (· = .b true) := by
  refine pure_fn (hG _ AF.f125 rfl) rfl ?_
  ((conv => whnf); repeat ((first | refine yf rfl ?_ | refine yt rfl ?_ | refine yo rfl ?_ | refine yc rfl ?_ | refine ys rfl ?_ | refine ye rfl ?_ | refine yn rfl ?_ | refine zw ?_ | refine zdt ?_ | refine zdf ?_ | refine znt ?_ | refine znf ?_ | refine zcd ?_ | refine zci ?_ | refine zc3 ?_ | refine SLoopZ.un rfl ?_) <;> (conv => whnf)))
  exact pure_free rfl rfl
theorem eqState0 (a b : List PodD) (ha : LenOk a) (hb : LenOk b) (oa : ∀ x ∈ a, x.ok) (ob : ∀ x ∈ b, x.ok) : Pure P 76 [stV ⟨[], a⟩, stV ⟨[], b⟩] (· = .b (decide (a = b))) := by
  have h0 := eqf_node0 hG
  have h1 := eqf_pod hG a b ha hb oa ob
  refine pure_fn (hG _ AF.f76 rfl) rfl ?_
  ((conv => whnf); repeat ((first | refine SCall.app (Pure.go h0 rfl) ?_ | refine SCall.app (Pure.go h1 rfl) ?_ | refine yf rfl ?_ | refine yt rfl ?_ | refine yo rfl ?_ | refine yc rfl ?_ | refine ys rfl ?_ | refine ye rfl ?_ | refine yn rfl ?_ | refine zw ?_ | refine zdt ?_ | refine zdf ?_ | refine znt ?_ | refine znf ?_ | refine zcd ?_ | refine zci ?_ | refine zc3 ?_) <;> (conv => whnf)))
  exact pure_free rfl rfl
end
end Go.Eng
