/-
QueueNew, for every pod and number.
-/
import Derived.Test.YteigjjkmabadfaaGreatQNoA
import Derived.Test.YteigjjkmabadfaaGreatQNoB
import Derived.Test.YteigjjkmabadfaaGreatFit10p
namespace Go.Eng
open Go
section
variable {P : Program} (hG : FnsOk P AF.fns.get)
include hG
theorem queueNew_ok (hb : ACall P 5 [] noG (fun r _ => r = .b true)) (p : PodD) (uid : Int) (hp : p.fit ∧ p.sok) (hpr : PodRoom p) : ACall P 4 [.agg (podR p), .i .i64 uid] noG (fun r _ => r = .b true) := by
  have hr : ∀ u, PodRoom (qD p u) := fun _ => ⟨hpr.ports, hpr.labels, hpr.tols, hpr.sel, hpr.anti, hpr.even⟩
  have ho : ∀ u, (qD p u).ok := fun _ => ⟨hp.1.ports, hp.1.labels, hp.1.tols, hp.1.sel, hp.1.anti, hp.1.even⟩
  have he : ∀ u v, Pure P 71 [.agg (podR (qD p u)), .agg (podR (qD p v))] (· = .b (decide (u = v))) := fun u v => by
    have h := eqPod_ok hG (qD p u) (qD p v) (ho u) (ho v)
    have e : decide (qD p u = qD p v) = decide (u = v) := by
      by_cases huv : u = v
      · subst huv
        rw [decide_eq_true rfl, decide_eq_true rfl]
      · rw [decide_eq_false huv, decide_eq_false fun h => huv (congrArg PodD.uid h)]
    rw [e] at h
    exact h
  by_cases hu : uid = p.uid
  · subst hu
    exact queueNew_same hG hb p hr he
  · exact queueNew_other hG hb p uid hu hr he
end
end Go.Eng
