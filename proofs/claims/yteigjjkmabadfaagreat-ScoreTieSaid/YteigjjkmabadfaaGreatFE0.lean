/-
A node by its name.
-/
import Derived.Test.YteigjjkmabadfaaGreatFitB
import Derived.Test.YteigjjkmabadfaaGreatFitC
set_option linter.unusedVariables false
set_option linter.unusedSimpArgs false
namespace Go.Eng
open Go
def nodeZ : NodeD := ⟨[], ⟨0, 0, 0⟩, [], []⟩
def nodeO (o : Option NodeD) : V :=
  match o with
  | some n => .tup [.agg (nodeR n), .b true]
  | none => .tup [.agg (nodeR nodeZ), .b false]
theorem pure_tup1 {Q : V → Prop} {cs ds : List V} {b : Bool} {h' : Heap} (hc : CeL ren0 ⟨0, 0⟩ noFz cs ds) (hf : ds.all V.flat = true) (hq : Q (.tup [.agg ds, .b b])) : PureAt Q (.tup [.agg cs, .b b]) h' :=
  pure_ce (u := .tup [.agg ds, .b b]) noFz fzOf_no (.inr ⟨_, _, rfl, rfl, .inr (.inl ⟨_, _, rfl, rfl, hc⟩), ce1_free rfl, trivial⟩) (by simp only [V.free, List.all_cons, V.free1, hf]; rfl) hq
/-- Nodes that can be copied. -/
def Small (s : StD) : Prop := ∀ n ∈ s.nodes, n.labels.length * 32 ≤ 140737488355328 ∧ n.taints.length * 32 ≤ 140737488355328
section
variable {P : Program} (hG : FnsOk P AF.fns.get)
include hG
set_option maxHeartbeats 1000000 in
set_option maxRecDepth 10000 in
theorem getnode_ok (s : StD) (name : Str) (hl : LenOk s.nodes) (hs : Small s) : Pure P 8 [stV s, .s name] (· = nodeO (s.nodes.find? fun p => p.name == name)) := by
  have hlm : (s.nodes.map nodeR).length = s.nodes.length := List.length_map _
  unfold LenOk at hl
  refine pure_fn (hG _ AF.f8 rfl) rfl ?_
  ((conv => whnf); repeat ((first | refine yf rfl ?_ | refine yt rfl ?_ | refine yo rfl ?_ | refine yc rfl ?_ | refine ys rfl ?_ | refine ye rfl ?_ | refine yn rfl ?_ | refine zw ?_ | refine zdt ?_ | refine zdf ?_ | refine znt ?_ | refine znf ?_ | refine zcd ?_ | refine zci ?_ | refine zc3 ?_) <;> (conv => whnf)))
  refine SLoopZ.by (fun q fr st => ∃ i : Nat, i ≤ s.nodes.length ∧ q = s.nodes.length - i ∧ NoneYet (fun p => p.name == name) s.nodes i ∧
      fr = [(11, .i .i64 i), (10, .i .i64 (s.nodes.map nodeR).length), (9, .sl none 6 (s.nodes.map nodeR)), (4, .p (.l 0) 0), (1, .s name)] ∧ st = ⟨noG, ⟨1, [(0, .cs (nodeR nodeZ))]⟩⟩)
    s.nodes.length ⟨_, _, ?_, 0, Nat.zero_le _, rfl, NoneYet.zero, rfl, rfl⟩ ?_
  · exact tL [1]
  rintro q fr st ⟨i, hi, rfl, hok, rfl, rfl⟩ R hR
  (conv => whnf)
  refine SIf.ds (fun hlt => ?_) (fun hge => ?_)
  · have hi' : i < s.nodes.length := by omega
    have he := List.getElem?_eq_getElem hi'
    have hm := List.getElem_mem hi'
    generalize s.nodes[i] = e at he hm
    have hc := copyNode_ok hG e (hs e hm).1 (hs e hm).2
    ((conv => whnf); repeat ((first | refine SEx.of (map_get' (by omega) he) ?_ | refine yf rfl ?_ | refine yt rfl ?_ | refine yo rfl ?_ | refine yc rfl ?_ | refine ys rfl ?_ | refine ye rfl ?_ | refine yn rfl ?_ | refine zw ?_ | refine zdt ?_ | refine zdf ?_ | refine znt ?_ | refine znf ?_ | refine zcd ?_ | refine zci ?_ | refine zc3 ?_) <;> (conv => whnf)))
    refine SIf.mk (fun hp => ?_) (fun hp => ?_)
    · ((conv => whnf); repeat ((first | refine SCall.app (Pure.go hc rfl) ?_ | refine yf rfl ?_ | refine yt rfl ?_ | refine yo rfl ?_ | refine yc rfl ?_ | refine ys rfl ?_ | refine ye rfl ?_ | refine yn rfl ?_ | refine zw ?_ | refine zdt ?_ | refine zdf ?_ | refine znt ?_ | refine znf ?_ | refine zcd ?_ | refine zci ?_ | refine zc3 ?_) <;> (conv => whnf)))
      rw [find_some he hp hok]
      exact pure_free rfl rfl
    · ((conv => whnf); repeat ((first | refine yf rfl ?_ | refine yt rfl ?_ | refine yo rfl ?_ | refine yc rfl ?_ | refine ys rfl ?_ | refine ye rfl ?_ | refine yn rfl ?_ | refine zw ?_ | refine zdt ?_ | refine zdf ?_ | refine znt ?_ | refine znf ?_ | refine zcd ?_ | refine zci ?_ | refine zc3 ?_) <;> (conv => whnf)))
      refine hR (s.nodes.length - (i + 1)) _ _ (by omega) ⟨_, _, ?_, i + 1, by omega, rfl, hok.succ he hp, rfl, rfl⟩
      exact tL [0]
  · ((conv => whnf); repeat ((first | refine yf rfl ?_ | refine yt rfl ?_ | refine yo rfl ?_ | refine yc rfl ?_ | refine ys rfl ?_ | refine ye rfl ?_ | refine yn rfl ?_ | refine zw ?_ | refine zdt ?_ | refine zdf ?_ | refine znt ?_ | refine znf ?_ | refine zcd ?_ | refine zci ?_ | refine zc3 ?_) <;> (conv => whnf)))
    rw [find_none (hok.all (by omega))]
    exact pure_tup1 (ds := nodeR nodeZ) (by ((repeat (first | exact trivial | refine ⟨by first | exact ce_flat rfl | exact .nil | exact .tok | exact .ren rfl (Nat.le_of_ble_eq_true rfl) | exact .rows (by ((repeat (first | exact .nil | refine .cons (by ((repeat (first | exact .nil | refine .cons (by first | exact .refl _ | exact .nil _) ?_)); first | done | fail)) ?_)); first | done | fail)), ?_⟩)); first | done | fail)) rfl rfl
end
end Go.Eng
