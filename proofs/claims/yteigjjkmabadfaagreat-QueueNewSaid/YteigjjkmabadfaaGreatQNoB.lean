/-
QueueNew, as the abstract run has it: another one comes.
-/
import Derived.Test.YteigjjkmabadfaaGreatQNoQ
namespace Go.Eng
open Go
section
variable {P : Program} (hG : FnsOk P AF.fns.get)
include hG
set_option maxHeartbeats 16000000 in
set_option maxRecDepth 20000 in
theorem queueNew_other (hb : ACall P 5 [] noG (fun r _ => r = .b true)) (p : PodD) (uid : Int) (hu : uid ≠ p.uid) (hr : ∀ u, PodRoom (qD p u)) (he : ∀ u v, Pure P 71 [.agg (podR (qD p u)), .agg (podR (qD p v))] (· = .b (decide (u = v)))) :
    ACall P 4 [.agg (podR p), .i .i64 uid] noG (fun r _ => r = .b true) := by
  have c1 := copyPod_ok hG (qD p p.uid) (hr _)
  have c2 := copyPod_ok hG (qD p uid) (hr _)
  have e1 := he uid p.uid
  rw [decide_eq_false hu] at e1
  have e2 := he p.uid uid
  rw [decide_eq_false hu.symm] at e2
  have hn : (p.name == p.name) = true := by simp
  have d1 : decide ((qD p p.uid).uid = (qD p uid).uid) = false := decide_eq_false fun h => hu h.symm
  have d2 : decide ((qD p uid).uid = (qD p p.uid).uid) = false := decide_eq_false fun h => hu h
  have hx : (!(true == !decide (uid = p.uid) && true)) = false := by rw [decide_eq_false hu]; rfl
  refine fn_sz (hG _ AF.f4 rfl) rfl ?_
  ((conv => whnf); repeat ((first | refine yf rfl ?_ | refine yt rfl ?_ | refine yo rfl ?_ | refine yc rfl ?_ | refine ys rfl ?_ | refine ye rfl ?_ | refine yn rfl ?_ | refine zw ?_ | refine zdt ?_ | refine zdf ?_ | refine znt ?_ | refine znf ?_ | refine zcd ?_ | refine zci ?_ | refine zc3 ?_) <;> (conv => whnf)))
  refine ⟨hb.frame rfl fun v h' hv => ?_⟩
  subst hv
  refine ⟨rfl, ?_⟩
  ((conv => whnf); repeat ((first | refine SCall.app (Pure.go c1 rfl) ?_ | refine SCall.app (Pure.go c2 rfl) ?_ | refine SCall.app (Pure.go e1 rfl) ?_ | refine SCall.app (Pure.go e2 rfl) ?_ | refine SCall.app (fn_sf (hG _ _ rfl) rfl) ?_ | refine SLoopB.un rfl ?_ | refine SIf.tt hn ?_ | refine SIf.ff d1 ?_ | refine SIf.ff d2 ?_ | refine SIf.ff hx ?_ | refine yf rfl ?_ | refine yt rfl ?_ | refine yo rfl ?_ | refine yc rfl ?_ | refine ys rfl ?_ | refine ye rfl ?_ | refine yn rfl ?_ | refine zw ?_ | refine zdt ?_ | refine zdf ?_ | refine znt ?_ | refine znf ?_ | refine zcd ?_ | refine zci ?_ | refine zc3 ?_ | refine SLoopZ.un rfl ?_) <;> (conv => whnf)))
  rfl
end
end Go.Eng
