/-
A state that is cut.
-/
import Derived.Test.YtcmknonnlnobnaaGreatFitD
import Derived.Test.YtcmknonnlnobnaaGreatArgX
import Derived.Test.YtcmknonnlnobnaaGreatFitQ
set_option linter.unusedVariables false
set_option linter.unusedSimpArgs false
set_option maxHeartbeats 8000000
set_option maxRecDepth 20000
namespace Go.Eng
open Go
structure NodesOf (s : StD) (ns : List NodeD) : Prop where
 len : ns.length ≤ 6
 sub : ∀ n ∈ ns, n ∈ s.nodes ∧ n.labels.length ≤ 6 ∧ n.taints.length ≤ 6 ∧ n.name ≠ noneS ∧ 1 ≤ n.name.length ∧ ResMay n.cap
 names : ns.Pairwise fun a b => a.name ≠ b.name
 so : ns.Pairwise fun a b => lessS a.name b.name
structure CutOf (s w : StD) : Prop where
 nodes : NodesOf s w.nodes
 plen : w.pods.length ≤ 16
 psub : ∀ p ∈ w.pods, p ∈ s.pods
 pmay : ∀ p ∈ w.pods, PodMay p
 pnam : w.pods.Pairwise fun a b => a.name ≠ b.name
theorem pair_split {l : List PodD} {n : Str} (h1 : (l.filter fun q => q.name == n).length ≤ 1) (h2 : (l.filter fun q => !(q.name == n)).Pairwise fun a b => a.name ≠ b.name) : l.Pairwise fun a b => a.name ≠ b.name := by
 induction l with
 | nil => exact .nil
 | cons x r ih =>
   cases hx : x.name == n with
   | true =>
     have hxn : x.name = n := by simpa using hx
     rw [List.filter_cons_of_pos (p := fun q : PodD => q.name == n) hx, List.length_cons] at h1
     rw [List.filter_cons_of_neg (p := fun q : PodD => !(q.name == n)) (by rw [hx]; decide)] at h2
     have h0 : r.filter (fun q => q.name == n) = [] := List.length_eq_zero_iff.1 (by omega)
     refine List.pairwise_cons.2 ⟨fun y hy e => ?_, ih (by rw [h0]; exact Nat.zero_le _) h2⟩
     have := List.filter_eq_nil_iff.1 h0 y hy
     rw [← e, hxn] at this
     simp at this
   | false =>
     rw [List.filter_cons_of_neg (p := fun q : PodD => q.name == n) (by rw [hx]; decide)] at h1
     rw [List.filter_cons_of_pos (p := fun q : PodD => !(q.name == n)) (by rw [hx]; rfl), List.pairwise_cons] at h2
     refine List.pairwise_cons.2 ⟨fun y hy e => ?_, ih h1 h2.2⟩
     cases hy' : y.name == n with
     | true => rw [← e, hx] at hy'; cases hy'
     | false => exact h2.1 y (List.mem_filter.2 ⟨hy, by rw [hy']; rfl⟩) e
theorem rest_less {l : List NodeD} {k : Nat} {f e : NodeD} (h : l.Pairwise fun a b => lessS a.name b.name) (hf : l[k]? = some f) (hef : lessS e.name f.name) : ∀ x ∈ l.drop k, lessS e.name x.name := by
 intro x hx
 obtain ⟨j, hj⟩ := List.mem_iff_getElem?.1 hx
 rw [List.getElem?_drop] at hj
 cases j with
 | zero =>
   rw [Nat.add_zero, hf] at hj
   cases hj
   exact hef
 | succ j => exact less_trans hef (pair_get h (by omega) hf hj)
theorem NodesOf.ins {s : StD} {A B : List NodeD} {e : NodeD} (h : NodesOf s (A ++ B)) (hl : (A ++ B).length < 6) (he : e ∈ s.nodes ∧ e.labels.length ≤ 6 ∧ e.taints.length ≤ 6 ∧ e.name ≠ noneS ∧ 1 ≤ e.name.length ∧ ResMay e.cap) (hn : ∀ x ∈ A ++ B, (x.name == e.name) = false) (hA : ∀ x ∈ A, lessS x.name e.name) (hB : ∀ x ∈ B, lessS e.name x.name) : NodesOf s (A ++ [e] ++ B) := by
 refine ⟨by simp at hl ⊢; omega, fun n hm => ?_, ?_, ?_⟩
 · simp only [List.append_assoc, List.mem_append, List.mem_singleton] at hm
   rcases hm with hm | hm | hm
   · exact h.sub n (List.mem_append.2 (.inl hm))
   · rw [hm]; exact he
   · exact h.sub n (List.mem_append.2 (.inr hm))
 · have hp := h.names
   rw [List.pairwise_append] at hp
   have ne : ∀ x ∈ A ++ B, x.name ≠ e.name := fun x hx h => by have := hn x hx; simp [h] at this
   rw [List.append_assoc, List.pairwise_append]
   refine ⟨hp.1, ?_, ?_⟩
   · show List.Pairwise _ (e :: B)
     rw [List.pairwise_cons]
     exact ⟨fun b hb => (ne b (List.mem_append.2 (.inr hb))).symm, hp.2.1⟩
   · intro a ha b hb
     simp only [List.mem_append, List.mem_singleton] at hb
     rcases hb with hb | hb
     · rw [hb]; exact ne a (List.mem_append.2 (.inl ha))
     · exact hp.2.2 a ha b hb
 · have hp := h.so
   rw [List.pairwise_append] at hp
   rw [List.append_assoc, List.pairwise_append]
   refine ⟨hp.1, ?_, ?_⟩
   · show List.Pairwise _ (e :: B)
     rw [List.pairwise_cons]
     exact ⟨hB, hp.2.1⟩
   · intro a ha b hb
     simp only [List.mem_append, List.mem_singleton] at hb
     rcases hb with hb | hb
     · rw [hb]; exact hA a ha
     · exact hp.2.2 a ha b hb
theorem CutOf.step {s w w' : StD} {e : PodD} (h : CutOf s w) (hw : WithOf w e w') (he : e ∈ s.pods) (hm : PodMay e) (hl : w.pods.length < 16) : CutOf s w' := by
 refine ⟨hw.nodes ▸ h.nodes, by have := hw.len; omega, fun p hp => ?_, fun p hp => ?_, ?_⟩
 · rcases hw.pods p hp with h1 | h1
   · exact h.psub p h1
   · exact h1 ▸ he
 · rcases hw.pods p hp with h1 | h1
   · exact h.pmay p h1
   · exact h1 ▸ hm
 · refine pair_split (n := e.name) (by rw [hw.one]; exact Nat.le_refl _) ?_
   have := hw.rest
   unfold elseD at this
   rw [this]
   exact h.pnam.sublist List.filter_sublist
theorem Pure.state {P : Program} {f : Nat} {args : List V} {φ : StD → Prop} (h0 : Pure P f args (fun u => ∃ w, u = stV w ∧ φ w)) (ha : args.all V.free1 = true) {h : Heap} {K : V → Heap → Prop} (hK : ∀ w, φ w → K (stV w) h) : ACall P f args h K :=
 h0.use (all_free ha) fun _ _ ⟨w, hu, hw⟩ => hu ▸ hK w hw
section
variable {P : Program} (hG : FnsOk P AF.fns.get)
include hG
theorem cut_ok (s : StD) (hn : LenOk s.nodes) (hp : LenOk s.pods) (hno : ∀ n ∈ s.nodes, n.ok ∧ n.sok) (hpo : ∀ p ∈ s.pods, p.ok ∧ p.sok) : Pure P 7 [stV s] (fun u => ∃ w, u = stV w ∧ CutOf s w) := by
 have hlm : (s.nodes.map nodeR).length = s.nodes.length := List.length_map _
 have hlp : (s.pods.map podR).length = s.pods.length := List.length_map _
 unfold LenOk at hn hp
 refine pure_fn (hG _ AF.f7 rfl) rfl ?_
 ((conv => whnf); repeat ((first | refine zz ?_) <;> (conv => whnf)))
 refine SLoopZ.by (fun q fr st => ∃ (i : Nat) (ns : List NodeD), i ≤ s.nodes.length ∧ q = s.nodes.length - i ∧ NodesOf s ns ∧
  fr = [(4, .i .i64 i), (3, .p (.l 2) 0), (2, .p (.l 1) 0), (1, .p (.l 0) 0)] ∧
  st = ⟨noG, ⟨3, [(2, .cs [.sl none 6 (ns.map nodeR), .sl none 16 (List.map podR [])]), (1, .cs [.nils, .nils]), (0, .cs [.sl none 6 (s.nodes.map nodeR), .sl none 16 (s.pods.map podR)])]⟩⟩)
  s.nodes.length ⟨_, _, ?_, 0, [], Nat.zero_le _, rfl, ⟨Nat.zero_le _, (fun n h => by cases h), List.Pairwise.nil, List.Pairwise.nil⟩, rfl, rfl⟩ ?_
 · exact tL [0, 1, 2]
 rintro q fr st ⟨i, ns, hi, rfl, hns, rfl, rfl⟩ R hR
 have hnm : (ns.map nodeR).length = ns.length := List.length_map _
 ((conv => whnf); repeat ((first | refine zz ?_) <;> (conv => whnf)))
 refine SIf.ds (fun hlt => ?_) (fun hge => ?_)
 · ((conv => whnf); repeat ((first | refine zz ?_) <;> (conv => whnf)))
   refine SIf.ds (fun h6 => ?_) (fun h6 => ?_)
   · have hi' : i < s.nodes.length := by omega
     have he := gE hi'
     have hm := List.getElem_mem hi'
     generalize s.nodes[i] = e at he hm
     ((conv => whnf); repeat ((first | refine ye (map_get' (by omega) he) ?_ | refine zz ?_) <;> (conv => whnf)))
     refine SCall.mk (Pure.any (rnode_ok hG e (hno e hm).1 (hno e hm).2) rfl fun r hr => ?_)
     cases r
     · ((conv => whnf); repeat ((first | refine zz ?_) <;> (conv => whnf)))
       refine hR (s.nodes.length - (i + 1)) _ _ (by omega) ⟨_, _, ?_, i + 1, ns, by omega, rfl, hns, rfl, rfl⟩
       exact tL [0, 1, 2]
     · have hgn := rgetnode_ok hG ⟨ns, []⟩ e.name (by unfold LenOk; have := hns.len; show ns.length ≤ _; omega)
       cases hfd : (StD.nodes ⟨ns, []⟩).find? (fun p => p.name == e.name) with
       | some x =>
         rw [hfd] at hgn
         ((conv => whnf); repeat ((first | refine cA (Pure.go hgn rfl) ?_ | refine zz ?_) <;> (conv => whnf)))
         refine hR (s.nodes.length - (i + 1)) _ _ (by omega) ⟨_, _, ?_, i + 1, ns, by omega, rfl, hns, rfl, rfl⟩
         exact tL [0, 1, 2]
       | none =>
         rw [hfd] at hgn
         have hnew : ∀ x ∈ ns, (x.name == e.name) = false := fun x hx => by simpa using List.find?_eq_none.1 hfd x hx
         ((conv => whnf); repeat ((first | refine cA (Pure.go hgn rfl) ?_ | refine zz ?_) <;> (conv => whnf)))
         refine SLoopZ.by (fun q fr st => ∃ k : Nat, k ≤ ns.length ∧ q = ns.length - k ∧ (∀ x ∈ ns.take k, lessS x.name e.name) ∧
             fr = [(8, .i .i64 k), (5, .p (.l 3) 0), (4, .i .i64 i), (3, .p (.l 2) 0), (2, .p (.l 1) 0), (1, .p (.l 0) 0)] ∧
             st = ⟨noG, ⟨4, [(3, .cs (nodeR e)), (2, .cs [.sl none 6 (ns.map nodeR), .sl none 16 (List.map podR [])]), (1, .cs [.nils, .nils]), (0, .cs [.sl none 6 (s.nodes.map nodeR), .sl none 16 (s.pods.map podR)])]⟩⟩)
          ns.length ⟨_, _, ?_, 0, Nat.zero_le _, rfl, (fun x hx => by cases hx), rfl, rfl⟩ ?_
         · exact tL [0, 1, 2, 3]
         rintro q fr st ⟨k, hk, rfl, hless, rfl, rfl⟩ R2 hR2
         obtain ⟨A, hA⟩ : ∃ A, A = ns.take k := ⟨_, rfl⟩
         obtain ⟨B, hB⟩ : ∃ B, B = ns.drop k := ⟨_, rfl⟩
         have hAB : ns = A ++ B := by rw [hA, hB, List.take_append_drop]
         have hT : ((ns.map nodeR).take ((k : Nat) : Int).toNat).drop (Int.toNat 0) = A.map nodeR := by rw [Int.toNat_natCast, ← List.map_take, hA]; rfl
         have hD : (ns.map nodeR).drop ((k : Nat) : Int).toNat = B.map nodeR := by rw [Int.toNat_natCast, ← List.map_drop, hB]
         have hl6 : ns.length < 6 := by omega
         have hAl : A.length ≤ 6 := by rw [hA]; exact Nat.le_trans (List.length_take_le _ _) (by omega)
         have hBl : B.length ≤ 6 := by rw [hB, List.length_drop]; omega
         have hres : (∀ x ∈ ns.drop k, lessS e.name x.name) → NodesOf s (A ++ [e] ++ B) := fun hB2 => by
          rw [← hB] at hB2
          rw [← hA] at hless
          rw [hAB] at hns hnew hl6
          exact hns.ins hl6 ⟨hm, hr rfl⟩ hnew hless hB2
         ((conv => whnf); repeat ((first | refine zz ?_) <;> (conv => whnf)))
         refine SIf.ds (fun hlt2 => ?_) (fun hge2 => ?_)
         · have hk' : k < ns.length := by omega
           have hf := gE hk'
           generalize ns[k] = f at hf
           ((conv => whnf); repeat ((first | refine ye (map_get' (by omega) hf) ?_ | refine zz ?_) <;> (conv => whnf)))
           refine SIf.mk (fun hc => ?_) (fun hc => ?_)
           · ((conv => whnf); repeat ((first | refine ye (map_get' (by omega) hf) ?_ | refine zz ?_) <;> (conv => whnf)))
             refine hR2 (ns.length - (k + 1)) _ _ (by omega) ⟨_, _, ?_, k + 1, by omega, rfl, all_step hless hf hc, rfl, rfl⟩
             exact tL [0, 1, 2, 3]
           · have hres := hres (rest_less hns.so hf (less_tri hc fun h => by have := hnew f (List.mem_of_getElem? hf); simp [h] at this))
             cases A <;> cases B
             all_goals ((conv => whnf); repeat ((first | refine ye (congrArg some hT) ?_ | refine ye (congrArg some hD) ?_ | refine SSame.mk (congrArg (V.sl none 6) hD.symm) ?_ | refine ye (deep_map (R := nodeR) (fun _ => rfl) _) ?_ | refine ye (congrArg some (List.map_append (f := nodeR) (l₂ := [e])).symm) ?_ | refine ye (congrArg some (List.map_append (f := nodeR)).symm) ?_ | refine SChk.mk (by simp only [roomOk, List.length_map, List.length_append, List.length_cons, List.length_nil, decide_eq_true_eq] at *; omega) ?_ | refine ye (map_get' (by omega) hf) ?_ | refine zz ?_) <;> (conv => whnf)))
             all_goals refine hR (s.nodes.length - (i + 1)) _ _ (by omega) ⟨_, _, ?_, i + 1, _, by omega, rfl, hres, rfl, rfl⟩
             all_goals (try rw [List.append_nil])
             all_goals exact tL [0, 1, 2]
         · have hres := hres (by rw [List.drop_eq_nil_of_le (by omega)]; intro x hx; cases hx)
           cases A <;> cases B
           all_goals ((conv => whnf); repeat ((first | refine ye (congrArg some hT) ?_ | refine ye (congrArg some hD) ?_ | refine SSame.mk (congrArg (V.sl none 6) hD.symm) ?_ | refine ye (deep_map (R := nodeR) (fun _ => rfl) _) ?_ | refine ye (congrArg some (List.map_append (f := nodeR) (l₂ := [e])).symm) ?_ | refine ye (congrArg some (List.map_append (f := nodeR)).symm) ?_ | refine SChk.mk (by simp only [roomOk, List.length_map, List.length_append, List.length_cons, List.length_nil, decide_eq_true_eq] at *; omega) ?_ | refine zz ?_) <;> (conv => whnf)))
           all_goals refine hR (s.nodes.length - (i + 1)) _ _ (by omega) ⟨_, _, ?_, i + 1, _, by omega, rfl, hres, rfl, rfl⟩
           all_goals (try rw [List.append_nil])
           all_goals exact tL [0, 1, 2]
   · ((conv => whnf); repeat ((first | refine zz ?_) <;> (conv => whnf)))
     refine SLoopZ.by (fun q fr st => ∃ (i : Nat) (w : StD), i ≤ s.pods.length ∧ q = s.pods.length - i ∧ CutOf s w ∧
      fr = [(9, .i .i64 i), (3, .p (.l 2) 0), (2, .p (.l 1) 0), (1, .p (.l 0) 0)] ∧
      st = ⟨noG, ⟨3, [(2, .cs [.sl none 6 (w.nodes.map nodeR), .sl none 16 (w.pods.map podR)]), (1, .cs [.nils, .nils]), (0, .cs [.sl none 6 (s.nodes.map nodeR), .sl none 16 (s.pods.map podR)])]⟩⟩)
       s.pods.length ⟨_, _, ?_, 0, ⟨ns, []⟩, Nat.zero_le _, rfl, ⟨hns, Nat.zero_le _, (fun n h => by cases h), (fun n h => by cases h), List.Pairwise.nil⟩, rfl, rfl⟩ ?_
     · exact tL [0, 1, 2]
     clear hR hns
     rintro q fr st ⟨i, w, hi, rfl, hw, rfl, rfl⟩ R hR
     have hwm : (w.pods.map podR).length = w.pods.length := List.length_map _
     have hwl := hw.plen
     ((conv => whnf); repeat ((first | refine zz ?_) <;> (conv => whnf)))
     refine SIf.ds (fun hlt => ?_) (fun hge => ?_)
     · ((conv => whnf); repeat ((first | refine zz ?_) <;> (conv => whnf)))
       refine SIf.ds (fun h16 => ?_) (fun h16 => ?_)
       · have hi' : i < s.pods.length := by omega
         have he := gE hi'
         have hm := List.getElem_mem hi'
         generalize s.pods[i] = e at he hm
         ((conv => whnf); repeat ((first | refine ye (map_get' (by omega) he) ?_ | refine zz ?_) <;> (conv => whnf)))
         refine SCall.mk (Pure.any (rpod_ok hG e (hpo e hm).1 (hpo e hm).2) rfl fun r hr => ?_)
         cases r
         · ((conv => whnf); repeat ((first | refine zz ?_) <;> (conv => whnf)))
           refine hR (s.pods.length - (i + 1)) _ _ (by omega) ⟨_, _, ?_, i + 1, w, by omega, rfl, hw, rfl, rfl⟩
           exact tL [0, 1, 2]
         · ((conv => whnf); repeat ((first | refine ye (map_get' (by omega) he) ?_ | refine zz ?_) <;> (conv => whnf)))
           refine SCall.mk (Pure.state (rwith_ok hG w e (by omega)) rfl fun w' hw' => ?_)
           ((conv => whnf); repeat ((first | refine zz ?_) <;> (conv => whnf)))
           refine hR (s.pods.length - (i + 1)) _ _ (by omega) ⟨_, _, ?_, i + 1, w', by omega, rfl, hw.step hw' hm (hr rfl) (by omega), rfl, rfl⟩
           exact tL [0, 1, 2]
       · ((conv => whnf); repeat ((first | refine zz ?_) <;> (conv => whnf)))
         exact pure_free rfl ⟨w, rfl, hw⟩
     · ((conv => whnf); repeat ((first | refine zz ?_) <;> (conv => whnf)))
       exact pure_free rfl ⟨w, rfl, hw⟩
 · ((conv => whnf); repeat ((first | refine zz ?_) <;> (conv => whnf)))
   refine SLoopZ.by (fun q fr st => ∃ (i : Nat) (w : StD), i ≤ s.pods.length ∧ q = s.pods.length - i ∧ CutOf s w ∧
    fr = [(9, .i .i64 i), (3, .p (.l 2) 0), (2, .p (.l 1) 0), (1, .p (.l 0) 0)] ∧
    st = ⟨noG, ⟨3, [(2, .cs [.sl none 6 (w.nodes.map nodeR), .sl none 16 (w.pods.map podR)]), (1, .cs [.nils, .nils]), (0, .cs [.sl none 6 (s.nodes.map nodeR), .sl none 16 (s.pods.map podR)])]⟩⟩)
     s.pods.length ⟨_, _, ?_, 0, ⟨ns, []⟩, Nat.zero_le _, rfl, ⟨hns, Nat.zero_le _, (fun n h => by cases h), (fun n h => by cases h), List.Pairwise.nil⟩, rfl, rfl⟩ ?_
   · exact tL [0, 1, 2]
   clear hR hns
   rintro q fr st ⟨i, w, hi, rfl, hw, rfl, rfl⟩ R hR
   have hwm : (w.pods.map podR).length = w.pods.length := List.length_map _
   have hwl := hw.plen
   ((conv => whnf); repeat ((first | refine zz ?_) <;> (conv => whnf)))
   refine SIf.ds (fun hlt => ?_) (fun hge => ?_)
   · ((conv => whnf); repeat ((first | refine zz ?_) <;> (conv => whnf)))
     refine SIf.ds (fun h16 => ?_) (fun h16 => ?_)
     · have hi' : i < s.pods.length := by omega
       have he := gE hi'
       have hm := List.getElem_mem hi'
       generalize s.pods[i] = e at he hm
       ((conv => whnf); repeat ((first | refine ye (map_get' (by omega) he) ?_ | refine zz ?_) <;> (conv => whnf)))
       refine SCall.mk (Pure.any (rpod_ok hG e (hpo e hm).1 (hpo e hm).2) rfl fun r hr => ?_)
       cases r
       · ((conv => whnf); repeat ((first | refine zz ?_) <;> (conv => whnf)))
         refine hR (s.pods.length - (i + 1)) _ _ (by omega) ⟨_, _, ?_, i + 1, w, by omega, rfl, hw, rfl, rfl⟩
         exact tL [0, 1, 2]
       · ((conv => whnf); repeat ((first | refine ye (map_get' (by omega) he) ?_ | refine zz ?_) <;> (conv => whnf)))
         refine SCall.mk (Pure.state (rwith_ok hG w e (by omega)) rfl fun w' hw' => ?_)
         ((conv => whnf); repeat ((first | refine zz ?_) <;> (conv => whnf)))
         refine hR (s.pods.length - (i + 1)) _ _ (by omega) ⟨_, _, ?_, i + 1, w', by omega, rfl, hw.step hw' hm (hr rfl) (by omega), rfl, rfl⟩
         exact tL [0, 1, 2]
     · ((conv => whnf); repeat ((first | refine zz ?_) <;> (conv => whnf)))
       exact pure_free rfl ⟨w, rfl, hw⟩
   · ((conv => whnf); repeat ((first | refine zz ?_) <;> (conv => whnf)))
     exact pure_free rfl ⟨w, rfl, hw⟩
end
end Go.Eng
/-
Arguments that are pods, nodes, states, by their shapes.
-/
namespace Go.Eng
open Go
theorem rows_of {α : Type} {R : α → List V} {sh : List Sh} {ok : α → Prop} (h : ∀ e, Sh.isL sh e → ∃ x, e = R x ∧ ok x) : ∀ {es : List (List V)}, (∀ e ∈ es, Sh.isL sh e) → ∃ l : List α, es = l.map R ∧ ∀ x ∈ l, ok x
 | [], _ => ⟨[], rfl, fun _ h => by cases h⟩
 | e :: r, he => by
   obtain ⟨x, rfl, hx⟩ := h e (he e (.head _))
   obtain ⟨l, rfl, hl⟩ := rows_of h fun e h => he e (.tail _ h)
   exact ⟨x :: l, rfl, fun y hy => by
    cases hy with
    | head => exact hx
    | tail _ hy => exact hl y hy⟩
theorem isL_cons {a : Sh} {r : List Sh} {e : List V} (h : Sh.isL (a :: r) e) : ∃ v q, e = v :: q ∧ a.is v ∧ Sh.isL r q := by
 cases e with
 | nil => simp [Sh.isL] at h
 | cons v q => exact ⟨v, q, rfl, by simpa [Sh.isL] using h⟩
theorem isL_nil {e : List V} (h : Sh.isL [] e) : e = [] := by
 cases e with
 | nil => rfl
 | cons v q => simp [Sh.isL] at h
theorem is_s {v : V} (h : Sh.is .s v) : ∃ l : Str, v = .s l ∧ LenOk l := by
 simp only [Sh.is] at h
 obtain ⟨l, rfl, hl⟩ := h
 exact ⟨l, rfl, hl⟩
theorem is_b {v : V} (h : Sh.is .b v) : ∃ b : Bool, v = .b b := by
 simpa only [Sh.is] using h
theorem is_i {v : V} (h : Sh.is (.i .i64) v) : ∃ n : Int, v = .i .i64 n ∧ in64 n := by
 simp only [Sh.is] at h
 obtain ⟨n, rfl, h1, h2⟩ := h
 exact ⟨n, rfl, by simpa [IntKind.min, IntKind.bits, IntKind.signed] using h1, by simpa [IntKind.max, IntKind.bits, IntKind.signed] using h2⟩
theorem is_sl {α : Type} {R : α → List V} {sh : List Sh} {ok : α → Prop} (h : ∀ e, Sh.isL sh e → ∃ x, e = R x ∧ ok x) {v : V} (hv : Sh.is (.sl sh) v) : ∃ l : List α, v = .sl none sh.length (l.map R) ∧ LenOk l ∧ ∀ x ∈ l, ok x := by
 simp only [Sh.is] at hv
 obtain ⟨es, rfl, h1, h2⟩ := hv
 obtain ⟨l, rfl, h3⟩ := rows_of h h2
 exact ⟨l, rfl, by simpa [LenOk] using h1, h3⟩
theorem row_str (e : List V) (h : Sh.isL [.s] e) : ∃ x : Str, e = strR x ∧ LenOk x := by
 obtain ⟨v, q, rfl, h1, h⟩ := isL_cons h
 obtain rfl := isL_nil h
 obtain ⟨l, rfl, hl⟩ := is_s h1
 exact ⟨l, rfl, hl⟩
theorem row_int (e : List V) (h : Sh.isL [.i .i64] e) : ∃ x : Int, e = intR x ∧ in64 x := by
 obtain ⟨v, q, rfl, h1, h⟩ := isL_cons h
 obtain rfl := isL_nil h
 obtain ⟨n, rfl, hn⟩ := is_i h1
 exact ⟨n, rfl, hn⟩
theorem row_pair (e : List V) (h : Sh.isL [.s, .s] e) : ∃ x : PairD, e = pairR x ∧ x.sok := by
 obtain ⟨v, q, rfl, h1, h⟩ := isL_cons h
 obtain ⟨u, q, rfl, h2, h⟩ := isL_cons h
 obtain rfl := isL_nil h
 obtain ⟨a, rfl, ha⟩ := is_s h1
 obtain ⟨b, rfl, hb⟩ := is_s h2
 exact ⟨⟨a, b⟩, rfl, ha, hb⟩
abbrev shTerm : List Sh := [.s, .i .i64, .sl [.s]]
theorem row_term (e : List V) (h : Sh.isL shTerm e) : ∃ x : TermD, e = termR x ∧ x.ok ∧ x.sok := by
 obtain ⟨v, q, rfl, h1, h⟩ := isL_cons h
 obtain ⟨u, q, rfl, h2, h⟩ := isL_cons h
 obtain ⟨w, q, rfl, h3, h⟩ := isL_cons h
 obtain rfl := isL_nil h
 obtain ⟨a, rfl, ha⟩ := is_s h1
 obtain ⟨b, rfl, _⟩ := is_i h2
 obtain ⟨c, rfl, hc, hs⟩ := is_sl row_str h3
 exact ⟨⟨a, b, c⟩, rfl, hc, ha, hs⟩
theorem row_tol (e : List V) (h : Sh.isL [.s, .s, .b] e) : ∃ x : TolD, e = tolR x ∧ x.sok := by
 obtain ⟨v, q, rfl, h1, h⟩ := isL_cons h
 obtain ⟨u, q, rfl, h2, h⟩ := isL_cons h
 obtain ⟨w, q, rfl, h3, h⟩ := isL_cons h
 obtain rfl := isL_nil h
 obtain ⟨a, rfl, ha⟩ := is_s h1
 obtain ⟨b, rfl, hb⟩ := is_s h2
 obtain ⟨c, rfl⟩ := is_b h3
 exact ⟨⟨a, b, c⟩, rfl, ha, hb⟩
abbrev shNode : List Sh := [.s, .i .i64, .i .i64, .i .i64, .sl [.s, .s], .sl [.s, .s]]
structure NodeD.fit (n : NodeD) : Prop extends toOk : n.ok where
 cap : n.cap.ok
theorem row_node (e : List V) (h : Sh.isL shNode e) : ∃ x : NodeD, e = nodeR x ∧ x.fit ∧ x.sok := by
 obtain ⟨v1, q, rfl, h1, h⟩ := isL_cons h
 obtain ⟨v2, q, rfl, h2, h⟩ := isL_cons h
 obtain ⟨v3, q, rfl, h3, h⟩ := isL_cons h
 obtain ⟨v4, q, rfl, h4, h⟩ := isL_cons h
 obtain ⟨v5, q, rfl, h5, h⟩ := isL_cons h
 obtain ⟨v6, q, rfl, h6, h⟩ := isL_cons h
 obtain rfl := isL_nil h
 obtain ⟨a, rfl, ha⟩ := is_s h1
 obtain ⟨c1, rfl, k1⟩ := is_i h2
 obtain ⟨c2, rfl, k2⟩ := is_i h3
 obtain ⟨c3, rfl, k3⟩ := is_i h4
 obtain ⟨l1, rfl, k4, s4⟩ := is_sl row_pair h5
 obtain ⟨l2, rfl, k5, s5⟩ := is_sl row_pair h6
 exact ⟨⟨a, ⟨c1, c2, c3⟩, l1, l2⟩, rfl, ⟨⟨k4, k5⟩, k1, k2, k3⟩, ha, s4, s5⟩
abbrev shPod : List Sh := [.s, .i .i64, .i .i64, .i .i64, .i .i64, .i .i64, .sl [.i .i64], .sl [.s, .s], .sl shTerm, .sl [.s, .s, .b], .s, .sl shTerm, .i .i64, .sl shTerm, .s, .i .i64]
theorem row_pod (e : List V) (h : Sh.isL shPod e) : ∃ x : PodD, e = podR x ∧ x.fit ∧ x.sok := by
 obtain ⟨v1, q, rfl, h1, h⟩ := isL_cons h
 obtain ⟨v2, q, rfl, h2, h⟩ := isL_cons h
 obtain ⟨v3, q, rfl, h3, h⟩ := isL_cons h
 obtain ⟨v4, q, rfl, h4, h⟩ := isL_cons h
 obtain ⟨v5, q, rfl, h5, h⟩ := isL_cons h
 obtain ⟨v6, q, rfl, h6, h⟩ := isL_cons h
 obtain ⟨v7, q, rfl, h7, h⟩ := isL_cons h
 obtain ⟨v8, q, rfl, h8, h⟩ := isL_cons h
 obtain ⟨v9, q, rfl, h9, h⟩ := isL_cons h
 obtain ⟨v10, q, rfl, h10, h⟩ := isL_cons h
 obtain ⟨v11, q, rfl, h11, h⟩ := isL_cons h
 obtain ⟨v12, q, rfl, h12, h⟩ := isL_cons h
 obtain ⟨v13, q, rfl, h13, h⟩ := isL_cons h
 obtain ⟨v14, q, rfl, h14, h⟩ := isL_cons h
 obtain ⟨v15, q, rfl, h15, h⟩ := isL_cons h
 obtain ⟨v16, q, rfl, h16, h⟩ := isL_cons h
 obtain rfl := isL_nil h
 obtain ⟨a1, rfl, s1⟩ := is_s h1
 obtain ⟨a2, rfl, _⟩ := is_i h2
 obtain ⟨a3, rfl, _⟩ := is_i h3
 obtain ⟨a4, rfl, k4⟩ := is_i h4
 obtain ⟨a5, rfl, k5⟩ := is_i h5
 obtain ⟨a6, rfl, k6⟩ := is_i h6
 obtain ⟨a7, rfl, k7, _⟩ := is_sl row_int h7
 obtain ⟨a8, rfl, k8, s8⟩ := is_sl row_pair h8
 obtain ⟨a9, rfl, k9, m9⟩ := is_sl row_term h9
 obtain ⟨a10, rfl, k10, s10⟩ := is_sl row_tol h10
 obtain ⟨a11, rfl, s11⟩ := is_s h11
 obtain ⟨a12, rfl, k12, m12⟩ := is_sl row_term h12
 obtain ⟨a13, rfl, _⟩ := is_i h13
 obtain ⟨a14, rfl, k14, m14⟩ := is_sl row_term h14
 obtain ⟨a15, rfl, s15⟩ := is_s h15
 obtain ⟨a16, rfl, _⟩ := is_i h16
 exact ⟨⟨a1, a2, a3, ⟨a4, a5, a6⟩, a7, a8, a9, a10, a11, a12, a13, a14, a15, a16⟩, rfl, ⟨⟨k7, k8, k10, ⟨k9, fun x h => (m9 x h).1⟩, ⟨k12, fun x h => (m12 x h).1⟩, ⟨k14, fun x h => (m14 x h).1⟩⟩, k4, k5, k6⟩, ⟨s1, s11, s15, s8, fun x h => (m9 x h).2, s10, fun x h => (m12 x h).2, fun x h => (m14 x h).2⟩⟩
theorem arg_str {v : V} (h : ArgSh.Is (false, [.s]) v) : ∃ l : Str, v = .s l ∧ LenOk l := is_s (by simpa [ArgSh.Is, Sh.isL] using h)
theorem arg_pod {v : V} (h : ArgSh.Is (true, shPod) v) : ∃ p : PodD, v = .agg (podR p) ∧ p.fit ∧ p.sok := by
 obtain ⟨row, rfl, h⟩ := h
 obtain ⟨p, rfl, hp⟩ := row_pod row h
 exact ⟨p, rfl, hp⟩
structure StD.arg (s : StD) : Prop where
 nodes : LenOk s.nodes
 pods : LenOk s.pods
 node : ∀ n ∈ s.nodes, n.fit ∧ n.sok
 pod : ∀ p ∈ s.pods, p.fit ∧ p.sok
theorem arg_state {v : V} (h : ArgSh.Is (true, [.sl shNode, .sl shPod]) v) : ∃ s : StD, v = stV s ∧ s.arg := by
 obtain ⟨row, rfl, h⟩ := h
 obtain ⟨v1, q, rfl, h1, h⟩ := isL_cons h
 obtain ⟨v2, q, rfl, h2, h⟩ := isL_cons h
 obtain rfl := isL_nil h
 obtain ⟨a1, rfl, k1, m1⟩ := is_sl row_node h1
 obtain ⟨a2, rfl, k2, m2⟩ := is_sl row_pod h2
 exact ⟨⟨a1, a2⟩, rfl, k1, k2, m1, m2⟩
end Go.Eng
/-
What the laws of chapter 18 share.
-/
namespace Go.Eng
open Go
theorem CutOf.ok {s w : StD} (h : CutOf s w) (ha : s.arg) : w.ok := by
 have h1 := h.nodes.len
 have h2 := h.plen
 refine ⟨by unfold LenOk; omega, by unfold LenOk; omega, fun n hn => (ha.node n (h.nodes.sub n hn).1).1.toOk, fun p hp => (ha.pod p (h.psub p hp)).1, by omega⟩
theorem StD.arg.cut {s : StD} (h : s.arg) {P : Program} (hG : FnsOk P AF.fns.get) : Pure P 7 [stV s] (fun u => ∃ w, u = stV w ∧ CutOf s w) :=
 cut_ok hG s h.nodes h.pods (fun n hn => ⟨(h.node n hn).1.toOk, (h.node n hn).2⟩) (fun p hp => ⟨(h.pod p hp).1.toOk, (h.pod p hp).2⟩)
end Go.Eng
