/-
May it be: a node by its name, all that is asked.
-/
import Derived.Test.YtcmknonnlnobnaaGreatWiA
import Derived.Test.YtcmknonnlnobnaaGreatFitB
import Derived.Test.YtcmknonnlnobnaaGreatFitC
import Derived.Test.YtcmknonnlnobnaaGreatFitC8
import Derived.Test.YtcmknonnlnobnaaGreatFitD
set_option linter.unusedVariables false
set_option linter.unusedSimpArgs false
set_option maxHeartbeats 4000000
set_option maxRecDepth 10000
namespace Go.Eng
open Go
def eachD (s : StD) (p : PodD) (n : NodeD) (node : Str) : Bool := p.node == [] && (roomD s p n && (portsD s p n && (wantsD p n && (borneD p n && (apartD s p node && evenD s p node)))))
def feasD (s : StD) (p : PodD) (node : Str) : Bool :=
 match s.nodes.find? (fun n => n.name == node) with
 | some n => eachD s p n node
 | none => false
theorem six (a b c d e : Bool) : a = false ∨ (a = true ∧ b = false) ∨ (a = true ∧ b = true ∧ c = false) ∨ (a = true ∧ b = true ∧ c = true ∧ d = false) ∨ (a = true ∧ b = true ∧ c = true ∧ d = true ∧ e = false) ∨ (a = true ∧ b = true ∧ c = true ∧ d = true ∧ e = true) := by
 cases a <;> cases b <;> cases c <;> cases d <;> cases e <;> simp
section
variable {P : Program} (hG : FnsOk P AF.fns.get)
include hG
theorem getnode_ok (s : StD) (name : Str) (hl : LenOk s.nodes) (hs : Small s) : Pure P 93 [stV s, .s name] (· = nodeO (s.nodes.find? fun p => p.name == name)) := by
 have hlm : (s.nodes.map nodeR).length = s.nodes.length := List.length_map _
 unfold LenOk at hl
 refine pure_fn (hG _ AF.f93 rfl) rfl ?_
 ((conv => whnf); repeat ((first | refine zz ?_) <;> (conv => whnf)))
 refine SLoopZ.by (fun q fr st => ∃ i : Nat, i ≤ s.nodes.length ∧ q = s.nodes.length - i ∧ NoneYet (fun p => p.name == name) s.nodes i ∧
  fr = [(11, .i .i64 i), (10, .i .i64 (s.nodes.map nodeR).length), (9, .sl none 6 (s.nodes.map nodeR)), (4, .p (.l 0) 0), (1, .s name)] ∧ st = ⟨noG, ⟨1, [(0, .cs (nodeR nodeZ))]⟩⟩)
  s.nodes.length ⟨_, _, ?_, 0, Nat.zero_le _, rfl, NoneYet.zero, rfl, rfl⟩ ?_
 · exact tL [1]
 rintro q fr st ⟨i, hi, rfl, hok, rfl, rfl⟩ R hR
 (conv => whnf)
 refine SIf.ds (fun hlt => ?_) (fun hge => ?_)
 · have hi' : i < s.nodes.length := by omega
   have he := gE hi'
   have hm := List.getElem_mem hi'
   generalize s.nodes[i] = e at he hm
   have hc := copyNode_ok hG e (hs e hm).1 (hs e hm).2
   ((conv => whnf); repeat ((first | refine ye (map_get' (by omega) he) ?_ | refine zz ?_) <;> (conv => whnf)))
   refine SIf.mk (fun hp => ?_) (fun hp => ?_)
   · ((conv => whnf); repeat ((first | refine cA (Pure.go hc rfl) ?_ | refine zz ?_) <;> (conv => whnf)))
     rw [find_some he hp hok]
     exact pure_free rfl rfl
   · ((conv => whnf); repeat ((first | refine zz ?_) <;> (conv => whnf)))
     refine hR (s.nodes.length - (i + 1)) _ _ (by omega) ⟨_, _, ?_, i + 1, by omega, rfl, hok.succ he hp, rfl, rfl⟩
     exact tL [0]
 · ((conv => whnf); repeat ((first | refine zz ?_) <;> (conv => whnf)))
   rw [find_none (hok.all (by omega))]
   exact pure_tup1 (ds := nodeR nodeZ) celA rfl rfl
theorem feas_ok (s : StD) (p : PodD) (node : Str) (hs : s.ok) (hp : p.fit) (hsm : Small s) : Pure P 36 [stV s, .agg (podR p), .s node] (· = .b (feasD s p node)) := by
 have hg := getnode_ok hG s node hs.nodes hsm
 refine pure_fn (hG _ AF.f36 rfl) rfl ?_
 simp only [feasD]
 cases hf : s.nodes.find? (fun n => n.name == node) with
 | none =>
   rw [hf] at hg
   ((conv => whnf); repeat ((first | refine cA (Pure.go hg rfl) ?_ | refine zz ?_) <;> (conv => whnf)))
   exact pure_free rfl rfl
 | some n =>
   rw [hf] at hg
   have hn := hs.node n (List.mem_of_find?_eq_some hf)
   have a1 := room_ok hG s p n hs hp.req
   have a2 := ports_ok hG s p n hs hp.ports
   have a3 := wants_ok hG p n hp.toOk hn
   have a4 := borne_ok hG p n hp.toOk hn
   have a5 := apart_ok hG s p node hs hp.toOk
   have a6 := even_ok hG s p node hs hp.toOk
   simp only [eachD]
   generalize roomD s p n = b1 at a1
   generalize portsD s p n = b2 at a2
   generalize wantsD p n = b3 at a3
   generalize borneD p n = b4 at a4
   generalize apartD s p node = b5 at a5
   generalize evenD s p node = b6 at a6
   cases hpn : (p.node == [])
   · have hpn' : (!(p.node == [])) = true := by rw [hpn]; rfl
     ((conv => whnf); repeat ((first | refine cA (Pure.go hg rfl) ?_ | refine SIf.tt hpn' ?_ | refine zz ?_) <;> (conv => whnf)))
     exact pure_free rfl rfl
   · have hpn' : (!(p.node == [])) = false := by rw [hpn]; rfl
     rcases six b1 b2 b3 b4 b5 with rfl | ⟨rfl, rfl⟩ | ⟨rfl, rfl, rfl⟩ | ⟨rfl, rfl, rfl, rfl⟩ | ⟨rfl, rfl, rfl, rfl, rfl⟩ | ⟨rfl, rfl, rfl, rfl, rfl⟩
     all_goals ((conv => whnf); repeat ((first | refine cA (Pure.go hg rfl) ?_ | refine SIf.ff hpn' ?_ | refine cA (Pure.go a1 rfl) ?_ | refine cA (Pure.go a2 rfl) ?_ | refine cA (Pure.go a3 rfl) ?_ | refine cA (Pure.go a4 rfl) ?_ | refine cA (Pure.go a5 rfl) ?_ | refine cA (Pure.go a6 rfl) ?_ | refine zz ?_) <;> (conv => whnf)))
     all_goals exact pure_free rfl rfl
end
end Go.Eng
