/-
Where a pod may go, by the document.
-/
import Derived.Test.YtcmknonnlnobnaaGreatFitE
import Derived.Test.YtcmknonnlnobnaaGreatFitF
import Derived.Test.YtcmknonnlnobnaaGreatFitG
set_option linter.unusedVariables false
set_option linter.unusedSimpArgs false
set_option maxHeartbeats 4000000
set_option maxRecDepth 10000
namespace Go.Eng
open Go
section
variable {P : Program} (hG : FnsOk P AF.fns.get)
include hG
theorem rfeas_ok (s : StD) (p : PodD) (node : Str) (hs : s.ok) (hp : p.ok) : Pure P 54 [stV s, .agg (podR p), .s node] (· = .b (feasD s p node)) := by
 have hg := rgetnode_ok hG s node hs.nodes
 refine pure_fn (hG _ AF.f54 rfl) rfl ?_
 simp only [feasD]
 cases hf : s.nodes.find? (fun n => n.name == node) with
 | none =>
   rw [hf] at hg
   ((conv => whnf); repeat ((first | refine cA (Pure.go hg rfl) ?_ | refine zz ?_) <;> (conv => whnf)))
   exact pure_free rfl rfl
 | some n =>
   rw [hf] at hg
   have hn := hs.node n (List.mem_of_find?_eq_some hf)
   have a1 := rroom_ok hG s p n hs
   have a2 := rports_ok hG s p n hs hp.ports
   have a3 := rmatch_ok hG p.sel n.labels hp.sel hn.labels
   have a4 := rborne_ok hG p.tols n.taints hp.tols hn.taints
   have a5 := rapart_ok hG s p node hs hp
   have a6 := reven_ok hG s p node hs hp
   simp only [eachD, wantsD, borneD]
   generalize roomD s p n = b1 at a1
   generalize portsD s p n = b2 at a2
   generalize (p.sel.all fun t => holdsD t n.labels) = b3 at a3
   generalize allD p.tols n.taints = b4 at a4
   generalize apartD s p node = b5 at a5
   generalize evenD s p node = b6 at a6
   cases hpn : (p.node == [])
   · ((conv => whnf); repeat ((first | refine cA (Pure.go hg rfl) ?_ | refine SIf.ff hpn ?_ | refine zz ?_) <;> (conv => whnf)))
     exact pure_free rfl rfl
   · rcases six b1 b2 b3 b4 b5 with rfl | ⟨rfl, rfl⟩ | ⟨rfl, rfl, rfl⟩ | ⟨rfl, rfl, rfl, rfl⟩ | ⟨rfl, rfl, rfl, rfl, rfl⟩ | ⟨rfl, rfl, rfl, rfl, rfl⟩
     all_goals ((conv => whnf); repeat ((first | refine cA (Pure.go hg rfl) ?_ | refine SIf.tt hpn ?_ | refine cA (Pure.go a1 rfl) ?_ | refine cA (Pure.go a2 rfl) ?_ | refine cA (Pure.go a3 rfl) ?_ | refine cA (Pure.go a4 rfl) ?_ | refine cA (Pure.go a5 rfl) ?_ | refine cA (Pure.go a6 rfl) ?_ | refine zz ?_) <;> (conv => whnf)))
     all_goals exact pure_free rfl rfl
end
end Go.Eng
