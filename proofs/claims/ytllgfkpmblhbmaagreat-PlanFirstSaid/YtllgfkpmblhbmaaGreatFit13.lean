/-
A state that is cut.
-/
import Derived.Test.YtllgfkpmblhbmaaGreatFitD
set_option linter.unusedVariables false
set_option linter.unusedSimpArgs false
namespace Go.Eng
open Go
/-- Nodes that a cut keeps. -/
structure NodesOf (s : StD) (ns : List NodeD) : Prop where
  len : ns.length ≤ 6
  sub : ∀ n ∈ ns, n ∈ s.nodes ∧ n.labels.length ≤ 6 ∧ n.taints.length ≤ 6 ∧ n.name ≠ noneS ∧ 1 ≤ n.name.length ∧ ResMay n.cap
  names : ns.Pairwise fun a b => a.name ≠ b.name
  so : ns.Pairwise fun a b => lessS a.name b.name
structure CutOf (s w : StD) : Prop where
  nodes : NodesOf s w.nodes
  plen : w.pods.length ≤ 16
  psub : ∀ p ∈ w.pods, p ∈ s.pods
  pmay : ∀ p ∈ w.pods, PodMay p
  pnam : w.pods.Pairwise fun a b => a.name ≠ b.name
theorem pair_split {l : List PodD} {n : Str} (h1 : (l.filter fun q => q.name == n).length ≤ 1) (h2 : (l.filter fun q => !(q.name == n)).Pairwise fun a b => a.name ≠ b.name) : l.Pairwise fun a b => a.name ≠ b.name := by
  induction l with
  | nil => exact .nil
  | cons x r ih =>
    cases hx : x.name == n with
    | true =>
      have hxn : x.name = n := by simpa using hx
      rw [List.filter_cons_of_pos (p := fun q : PodD => q.name == n) hx, List.length_cons] at h1
      rw [List.filter_cons_of_neg (p := fun q : PodD => !(q.name == n)) (by rw [hx]; decide)] at h2
      have h0 : r.filter (fun q => q.name == n) = [] := List.length_eq_zero_iff.1 (by omega)
      refine List.pairwise_cons.2 ⟨fun y hy e => ?_, ih (by rw [h0]; exact Nat.zero_le _) h2⟩
      have := List.filter_eq_nil_iff.1 h0 y hy
      rw [← e, hxn] at this
      simp at this
    | false =>
      rw [List.filter_cons_of_neg (p := fun q : PodD => q.name == n) (by rw [hx]; decide)] at h1
      rw [List.filter_cons_of_pos (p := fun q : PodD => !(q.name == n)) (by rw [hx]; rfl), List.pairwise_cons] at h2
      refine List.pairwise_cons.2 ⟨fun y hy e => ?_, ih h1 h2.2⟩
      cases hy' : y.name == n with
      | true => rw [← e, hx] at hy'; cases hy'
      | false => exact h2.1 y (List.mem_filter.2 ⟨hy, by rw [hy']; rfl⟩) e
theorem rest_less {l : List NodeD} {k : Nat} {f e : NodeD} (h : l.Pairwise fun a b => lessS a.name b.name) (hf : l[k]? = some f) (hef : lessS e.name f.name) : ∀ x ∈ l.drop k, lessS e.name x.name := by
  intro x hx
  obtain ⟨j, hj⟩ := List.mem_iff_getElem?.1 hx
  rw [List.getElem?_drop] at hj
  cases j with
  | zero =>
    rw [Nat.add_zero, hf] at hj
    cases hj
    exact hef
  | succ j => exact less_trans hef (pair_get h (by omega) hf hj)
theorem NodesOf.ins {s : StD} {A B : List NodeD} {e : NodeD} (h : NodesOf s (A ++ B)) (hl : (A ++ B).length < 6) (he : e ∈ s.nodes ∧ e.labels.length ≤ 6 ∧ e.taints.length ≤ 6 ∧ e.name ≠ noneS ∧ 1 ≤ e.name.length ∧ ResMay e.cap) (hn : ∀ x ∈ A ++ B, (x.name == e.name) = false) (hA : ∀ x ∈ A, lessS x.name e.name) (hB : ∀ x ∈ B, lessS e.name x.name) : NodesOf s (A ++ [e] ++ B) := by
  refine ⟨by simp at hl ⊢; omega, fun n hm => ?_, ?_, ?_⟩
  · simp only [List.append_assoc, List.mem_append, List.mem_singleton] at hm
    rcases hm with hm | hm | hm
    · exact h.sub n (List.mem_append.2 (.inl hm))
    · rw [hm]; exact he
    · exact h.sub n (List.mem_append.2 (.inr hm))
  · have hp := h.names
    rw [List.pairwise_append] at hp
    have ne : ∀ x ∈ A ++ B, x.name ≠ e.name := fun x hx h => by have := hn x hx; simp [h] at this
    rw [List.append_assoc, List.pairwise_append]
    refine ⟨hp.1, ?_, ?_⟩
    · show List.Pairwise _ (e :: B)
      rw [List.pairwise_cons]
      exact ⟨fun b hb => (ne b (List.mem_append.2 (.inr hb))).symm, hp.2.1⟩
    · intro a ha b hb
      simp only [List.mem_append, List.mem_singleton] at hb
      rcases hb with hb | hb
      · rw [hb]; exact ne a (List.mem_append.2 (.inl ha))
      · exact hp.2.2 a ha b hb
  · have hp := h.so
    rw [List.pairwise_append] at hp
    rw [List.append_assoc, List.pairwise_append]
    refine ⟨hp.1, ?_, ?_⟩
    · show List.Pairwise _ (e :: B)
      rw [List.pairwise_cons]
      exact ⟨hB, hp.2.1⟩
    · intro a ha b hb
      simp only [List.mem_append, List.mem_singleton] at hb
      rcases hb with hb | hb
      · rw [hb]; exact hA a ha
      · exact hp.2.2 a ha b hb
theorem CutOf.step {s w w' : StD} {e : PodD} (h : CutOf s w) (hw : WithOf w e w') (he : e ∈ s.pods) (hm : PodMay e) (hl : w.pods.length < 16) : CutOf s w' := by
  refine ⟨hw.nodes ▸ h.nodes, by have := hw.len; omega, fun p hp => ?_, fun p hp => ?_, ?_⟩
  · rcases hw.pods p hp with h1 | h1
    · exact h.psub p h1
    · exact h1 ▸ he
  · rcases hw.pods p hp with h1 | h1
    · exact h.pmay p h1
    · exact h1 ▸ hm
  · refine pair_split (n := e.name) (by rw [hw.one]; exact Nat.le_refl _) ?_
    have := hw.rest
    unfold elseD at this
    rw [this]
    exact h.pnam.sublist List.filter_sublist
theorem Pure.state {P : Program} {f : Nat} {args : List V} {φ : StD → Prop} (h0 : Pure P f args (fun u => ∃ w, u = stV w ∧ φ w)) (ha : args.all V.free1 = true) {h : Heap} {K : V → Heap → Prop} (hK : ∀ w, φ w → K (stV w) h) : ACall P f args h K :=
  h0.use (all_free ha) fun _ _ ⟨w, hu, hw⟩ => hu ▸ hK w hw
section
variable {P : Program} (hG : FnsOk P AF.fns.get)
include hG
set_option maxHeartbeats 8000000 in
set_option maxRecDepth 20000 in
theorem cut_ok (s : StD) (hn : LenOk s.nodes) (hp : LenOk s.pods) (hno : ∀ n ∈ s.nodes, n.ok ∧ n.sok) (hpo : ∀ p ∈ s.pods, p.ok ∧ p.sok) : Pure P 9 [stV s] (fun u => ∃ w, u = stV w ∧ CutOf s w) := by
  have hlm : (s.nodes.map nodeR).length = s.nodes.length := List.length_map _
  have hlp : (s.pods.map podR).length = s.pods.length := List.length_map _
  unfold LenOk at hn hp
  refine pure_fn (hG _ AF.f9 rfl) rfl ?_
  ((conv => whnf); repeat ((first | refine yf rfl ?_ | refine yt rfl ?_ | refine yo rfl ?_ | refine yc rfl ?_ | refine ys rfl ?_ | refine ye rfl ?_ | refine yn rfl ?_ | refine zw ?_ | refine zdt ?_ | refine zdf ?_ | refine znt ?_ | refine znf ?_ | refine zcd ?_ | refine zci ?_ | refine zc3 ?_) <;> (conv => whnf)))
  refine SLoopZ.by (fun q fr st => ∃ (i : Nat) (ns : List NodeD), i ≤ s.nodes.length ∧ q = s.nodes.length - i ∧ NodesOf s ns ∧
      fr = [(4, .i .i64 i), (3, .p (.l 2) 0), (2, .p (.l 1) 0), (1, .p (.l 0) 0)] ∧
      st = ⟨noG, ⟨3, [(2, .cs [.sl none 6 (ns.map nodeR), .sl none 16 (List.map podR [])]), (1, .cs [.nils, .nils]), (0, .cs [.sl none 6 (s.nodes.map nodeR), .sl none 16 (s.pods.map podR)])]⟩⟩)
    s.nodes.length ⟨_, _, ?_, 0, [], Nat.zero_le _, rfl, ⟨Nat.zero_le _, (fun n h => by cases h), List.Pairwise.nil, List.Pairwise.nil⟩, rfl, rfl⟩ ?_
  · exact tL [0, 1, 2]
  rintro q fr st ⟨i, ns, hi, rfl, hns, rfl, rfl⟩ R hR
  have hnm : (ns.map nodeR).length = ns.length := List.length_map _
  ((conv => whnf); repeat ((first | refine yf rfl ?_ | refine yt rfl ?_ | refine yo rfl ?_ | refine yc rfl ?_ | refine ys rfl ?_ | refine ye rfl ?_ | refine yn rfl ?_ | refine zw ?_ | refine zdt ?_ | refine zdf ?_ | refine znt ?_ | refine znf ?_ | refine zcd ?_ | refine zci ?_ | refine zc3 ?_) <;> (conv => whnf)))
  refine SIf.ds (fun hlt => ?_) (fun hge => ?_)
  · ((conv => whnf); repeat ((first | refine yf rfl ?_ | refine yt rfl ?_ | refine yo rfl ?_ | refine yc rfl ?_ | refine ys rfl ?_ | refine ye rfl ?_ | refine yn rfl ?_ | refine zw ?_ | refine zdt ?_ | refine zdf ?_ | refine znt ?_ | refine znf ?_ | refine zcd ?_ | refine zci ?_ | refine zc3 ?_) <;> (conv => whnf)))
    refine SIf.ds (fun h6 => ?_) (fun h6 => ?_)
    · have hi' : i < s.nodes.length := by omega
      have he := List.getElem?_eq_getElem hi'
      have hm := List.getElem_mem hi'
      generalize s.nodes[i] = e at he hm
      ((conv => whnf); repeat ((first | refine SEx.of (map_get' (by omega) he) ?_ | refine yf rfl ?_ | refine yt rfl ?_ | refine yo rfl ?_ | refine yc rfl ?_ | refine ys rfl ?_ | refine ye rfl ?_ | refine yn rfl ?_ | refine zw ?_ | refine zdt ?_ | refine zdf ?_ | refine znt ?_ | refine znf ?_ | refine zcd ?_ | refine zci ?_ | refine zc3 ?_) <;> (conv => whnf)))
      refine SCall.mk (Pure.any (rnode_ok hG e (hno e hm).1 (hno e hm).2) rfl fun r hr => ?_)
      cases r
      · ((conv => whnf); repeat ((first | refine yf rfl ?_ | refine yt rfl ?_ | refine yo rfl ?_ | refine yc rfl ?_ | refine ys rfl ?_ | refine ye rfl ?_ | refine yn rfl ?_ | refine zw ?_ | refine zdt ?_ | refine zdf ?_ | refine znt ?_ | refine znf ?_ | refine zcd ?_ | refine zci ?_ | refine zc3 ?_) <;> (conv => whnf)))
        refine hR (s.nodes.length - (i + 1)) _ _ (by omega) ⟨_, _, ?_, i + 1, ns, by omega, rfl, hns, rfl, rfl⟩
        exact tL [0, 1, 2]
      · have hgn := rgetnode_ok hG ⟨ns, []⟩ e.name (by unfold LenOk; have := hns.len; show ns.length ≤ _; omega)
        cases hfd : (StD.nodes ⟨ns, []⟩).find? (fun p => p.name == e.name) with
        | some x =>
          rw [hfd] at hgn
          ((conv => whnf); repeat ((first | refine SCall.app (Pure.go hgn rfl) ?_ | refine yf rfl ?_ | refine yt rfl ?_ | refine yo rfl ?_ | refine yc rfl ?_ | refine ys rfl ?_ | refine ye rfl ?_ | refine yn rfl ?_ | refine zw ?_ | refine zdt ?_ | refine zdf ?_ | refine znt ?_ | refine znf ?_ | refine zcd ?_ | refine zci ?_ | refine zc3 ?_) <;> (conv => whnf)))
          refine hR (s.nodes.length - (i + 1)) _ _ (by omega) ⟨_, _, ?_, i + 1, ns, by omega, rfl, hns, rfl, rfl⟩
          exact tL [0, 1, 2]
        | none =>
          rw [hfd] at hgn
          have hnew : ∀ x ∈ ns, (x.name == e.name) = false := fun x hx => by simpa using List.find?_eq_none.1 hfd x hx
          ((conv => whnf); repeat ((first | refine SCall.app (Pure.go hgn rfl) ?_ | refine yf rfl ?_ | refine yt rfl ?_ | refine yo rfl ?_ | refine yc rfl ?_ | refine ys rfl ?_ | refine ye rfl ?_ | refine yn rfl ?_ | refine zw ?_ | refine zdt ?_ | refine zdf ?_ | refine znt ?_ | refine znf ?_ | refine zcd ?_ | refine zci ?_ | refine zc3 ?_) <;> (conv => whnf)))
          refine SLoopZ.by (fun q fr st => ∃ k : Nat, k ≤ ns.length ∧ q = ns.length - k ∧ (∀ x ∈ ns.take k, lessS x.name e.name) ∧
              fr = [(8, .i .i64 k), (5, .p (.l 3) 0), (4, .i .i64 i), (3, .p (.l 2) 0), (2, .p (.l 1) 0), (1, .p (.l 0) 0)] ∧
              st = ⟨noG, ⟨4, [(3, .cs (nodeR e)), (2, .cs [.sl none 6 (ns.map nodeR), .sl none 16 (List.map podR [])]), (1, .cs [.nils, .nils]), (0, .cs [.sl none 6 (s.nodes.map nodeR), .sl none 16 (s.pods.map podR)])]⟩⟩)
            ns.length ⟨_, _, ?_, 0, Nat.zero_le _, rfl, (fun x hx => by cases hx), rfl, rfl⟩ ?_
          · exact tL [0, 1, 2, 3]
          rintro q fr st ⟨k, hk, rfl, hless, rfl, rfl⟩ R2 hR2
          obtain ⟨A, hA⟩ : ∃ A, A = ns.take k := ⟨_, rfl⟩
          obtain ⟨B, hB⟩ : ∃ B, B = ns.drop k := ⟨_, rfl⟩
          have hAB : ns = A ++ B := by rw [hA, hB, List.take_append_drop]
          have hT : ((ns.map nodeR).take ((k : Nat) : Int).toNat).drop (Int.toNat 0) = A.map nodeR := by rw [Int.toNat_natCast, ← List.map_take, hA]; rfl
          have hD : (ns.map nodeR).drop ((k : Nat) : Int).toNat = B.map nodeR := by rw [Int.toNat_natCast, ← List.map_drop, hB]
          have hl6 : ns.length < 6 := by omega
          have hAl : A.length ≤ 6 := by rw [hA]; exact Nat.le_trans (List.length_take_le _ _) (by omega)
          have hBl : B.length ≤ 6 := by rw [hB, List.length_drop]; omega
          have hres : (∀ x ∈ ns.drop k, lessS e.name x.name) → NodesOf s (A ++ [e] ++ B) := fun hB2 => by
            rw [← hB] at hB2
            rw [← hA] at hless
            rw [hAB] at hns hnew hl6
            exact hns.ins hl6 ⟨hm, hr rfl⟩ hnew hless hB2
          ((conv => whnf); repeat ((first | refine yf rfl ?_ | refine yt rfl ?_ | refine yo rfl ?_ | refine yc rfl ?_ | refine ys rfl ?_ | refine ye rfl ?_ | refine yn rfl ?_ | refine zw ?_ | refine zdt ?_ | refine zdf ?_ | refine znt ?_ | refine znf ?_ | refine zcd ?_ | refine zci ?_ | refine zc3 ?_) <;> (conv => whnf)))
          refine SIf.ds (fun hlt2 => ?_) (fun hge2 => ?_)
          · have hk' : k < ns.length := by omega
            have hf := List.getElem?_eq_getElem hk'
            generalize ns[k] = f at hf
            ((conv => whnf); repeat ((first | refine SEx.of (map_get' (by omega) hf) ?_ | refine yf rfl ?_ | refine yt rfl ?_ | refine yo rfl ?_ | refine yc rfl ?_ | refine ys rfl ?_ | refine ye rfl ?_ | refine yn rfl ?_ | refine zw ?_ | refine zdt ?_ | refine zdf ?_ | refine znt ?_ | refine znf ?_ | refine zcd ?_ | refine zci ?_ | refine zc3 ?_) <;> (conv => whnf)))
            refine SIf.mk (fun hc => ?_) (fun hc => ?_)
            · ((conv => whnf); repeat ((first | refine SEx.of (map_get' (by omega) hf) ?_ | refine yf rfl ?_ | refine yt rfl ?_ | refine yo rfl ?_ | refine yc rfl ?_ | refine ys rfl ?_ | refine ye rfl ?_ | refine yn rfl ?_ | refine zw ?_ | refine zdt ?_ | refine zdf ?_ | refine znt ?_ | refine znf ?_ | refine zcd ?_ | refine zci ?_ | refine zc3 ?_) <;> (conv => whnf)))
              refine hR2 (ns.length - (k + 1)) _ _ (by omega) ⟨_, _, ?_, k + 1, by omega, rfl, all_step hless hf hc, rfl, rfl⟩
              exact tL [0, 1, 2, 3]
            · have hres := hres (rest_less hns.so hf (less_tri hc fun h => by have := hnew f (List.mem_of_getElem? hf); simp [h] at this))
              cases A <;> cases B
              all_goals ((conv => whnf); repeat ((first | refine SEx.of (congrArg some hT) ?_ | refine SEx.of (congrArg some hD) ?_ | refine SSame.mk (congrArg (V.sl none 6) hD.symm) ?_ | refine SEx.of (deep_map (R := nodeR) (fun _ => rfl) _) ?_ | refine SEx.of (congrArg some (List.map_append (f := nodeR) (l₂ := [e])).symm) ?_ | refine SEx.of (congrArg some (List.map_append (f := nodeR)).symm) ?_ | refine SChk.mk (by simp only [roomOk, List.length_map, List.length_append, List.length_cons, List.length_nil, decide_eq_true_eq] at *; omega) ?_ | refine SEx.of (map_get' (by omega) hf) ?_ | refine yf rfl ?_ | refine yt rfl ?_ | refine yo rfl ?_ | refine yc rfl ?_ | refine ys rfl ?_ | refine ye rfl ?_ | refine yn rfl ?_ | refine zw ?_ | refine zdt ?_ | refine zdf ?_ | refine znt ?_ | refine znf ?_ | refine zcd ?_ | refine zci ?_ | refine zc3 ?_) <;> (conv => whnf)))
              all_goals refine hR (s.nodes.length - (i + 1)) _ _ (by omega) ⟨_, _, ?_, i + 1, _, by omega, rfl, hres, rfl, rfl⟩
              all_goals (try rw [List.append_nil])
              all_goals exact tL [0, 1, 2]
          · have hres := hres (by rw [List.drop_eq_nil_of_le (by omega)]; intro x hx; cases hx)
            cases A <;> cases B
            all_goals ((conv => whnf); repeat ((first | refine SEx.of (congrArg some hT) ?_ | refine SEx.of (congrArg some hD) ?_ | refine SSame.mk (congrArg (V.sl none 6) hD.symm) ?_ | refine SEx.of (deep_map (R := nodeR) (fun _ => rfl) _) ?_ | refine SEx.of (congrArg some (List.map_append (f := nodeR) (l₂ := [e])).symm) ?_ | refine SEx.of (congrArg some (List.map_append (f := nodeR)).symm) ?_ | refine SChk.mk (by simp only [roomOk, List.length_map, List.length_append, List.length_cons, List.length_nil, decide_eq_true_eq] at *; omega) ?_ | refine yf rfl ?_ | refine yt rfl ?_ | refine yo rfl ?_ | refine yc rfl ?_ | refine ys rfl ?_ | refine ye rfl ?_ | refine yn rfl ?_ | refine zw ?_ | refine zdt ?_ | refine zdf ?_ | refine znt ?_ | refine znf ?_ | refine zcd ?_ | refine zci ?_ | refine zc3 ?_) <;> (conv => whnf)))
            all_goals refine hR (s.nodes.length - (i + 1)) _ _ (by omega) ⟨_, _, ?_, i + 1, _, by omega, rfl, hres, rfl, rfl⟩
            all_goals (try rw [List.append_nil])
            all_goals exact tL [0, 1, 2]
    · ((conv => whnf); repeat ((first | refine yf rfl ?_ | refine yt rfl ?_ | refine yo rfl ?_ | refine yc rfl ?_ | refine ys rfl ?_ | refine ye rfl ?_ | refine yn rfl ?_ | refine zw ?_ | refine zdt ?_ | refine zdf ?_ | refine znt ?_ | refine znf ?_ | refine zcd ?_ | refine zci ?_ | refine zc3 ?_) <;> (conv => whnf)))
      refine SLoopZ.by (fun q fr st => ∃ (i : Nat) (w : StD), i ≤ s.pods.length ∧ q = s.pods.length - i ∧ CutOf s w ∧
          fr = [(9, .i .i64 i), (3, .p (.l 2) 0), (2, .p (.l 1) 0), (1, .p (.l 0) 0)] ∧
          st = ⟨noG, ⟨3, [(2, .cs [.sl none 6 (w.nodes.map nodeR), .sl none 16 (w.pods.map podR)]), (1, .cs [.nils, .nils]), (0, .cs [.sl none 6 (s.nodes.map nodeR), .sl none 16 (s.pods.map podR)])]⟩⟩)
        s.pods.length ⟨_, _, ?_, 0, ⟨ns, []⟩, Nat.zero_le _, rfl, ⟨hns, Nat.zero_le _, (fun n h => by cases h), (fun n h => by cases h), List.Pairwise.nil⟩, rfl, rfl⟩ ?_
      · exact tL [0, 1, 2]
      clear hR hns
      rintro q fr st ⟨i, w, hi, rfl, hw, rfl, rfl⟩ R hR
      have hwm : (w.pods.map podR).length = w.pods.length := List.length_map _
      have hwl := hw.plen
      ((conv => whnf); repeat ((first | refine yf rfl ?_ | refine yt rfl ?_ | refine yo rfl ?_ | refine yc rfl ?_ | refine ys rfl ?_ | refine ye rfl ?_ | refine yn rfl ?_ | refine zw ?_ | refine zdt ?_ | refine zdf ?_ | refine znt ?_ | refine znf ?_ | refine zcd ?_ | refine zci ?_ | refine zc3 ?_) <;> (conv => whnf)))
      refine SIf.ds (fun hlt => ?_) (fun hge => ?_)
      · ((conv => whnf); repeat ((first | refine yf rfl ?_ | refine yt rfl ?_ | refine yo rfl ?_ | refine yc rfl ?_ | refine ys rfl ?_ | refine ye rfl ?_ | refine yn rfl ?_ | refine zw ?_ | refine zdt ?_ | refine zdf ?_ | refine znt ?_ | refine znf ?_ | refine zcd ?_ | refine zci ?_ | refine zc3 ?_) <;> (conv => whnf)))
        refine SIf.ds (fun h16 => ?_) (fun h16 => ?_)
        · have hi' : i < s.pods.length := by omega
          have he := List.getElem?_eq_getElem hi'
          have hm := List.getElem_mem hi'
          generalize s.pods[i] = e at he hm
          ((conv => whnf); repeat ((first | refine SEx.of (map_get' (by omega) he) ?_ | refine yf rfl ?_ | refine yt rfl ?_ | refine yo rfl ?_ | refine yc rfl ?_ | refine ys rfl ?_ | refine ye rfl ?_ | refine yn rfl ?_ | refine zw ?_ | refine zdt ?_ | refine zdf ?_ | refine znt ?_ | refine znf ?_ | refine zcd ?_ | refine zci ?_ | refine zc3 ?_) <;> (conv => whnf)))
          refine SCall.mk (Pure.any (rpod_ok hG e (hpo e hm).1 (hpo e hm).2) rfl fun r hr => ?_)
          cases r
          · ((conv => whnf); repeat ((first | refine yf rfl ?_ | refine yt rfl ?_ | refine yo rfl ?_ | refine yc rfl ?_ | refine ys rfl ?_ | refine ye rfl ?_ | refine yn rfl ?_ | refine zw ?_ | refine zdt ?_ | refine zdf ?_ | refine znt ?_ | refine znf ?_ | refine zcd ?_ | refine zci ?_ | refine zc3 ?_) <;> (conv => whnf)))
            refine hR (s.pods.length - (i + 1)) _ _ (by omega) ⟨_, _, ?_, i + 1, w, by omega, rfl, hw, rfl, rfl⟩
            exact tL [0, 1, 2]
          · ((conv => whnf); repeat ((first | refine SEx.of (map_get' (by omega) he) ?_ | refine yf rfl ?_ | refine yt rfl ?_ | refine yo rfl ?_ | refine yc rfl ?_ | refine ys rfl ?_ | refine ye rfl ?_ | refine yn rfl ?_ | refine zw ?_ | refine zdt ?_ | refine zdf ?_ | refine znt ?_ | refine znf ?_ | refine zcd ?_ | refine zci ?_ | refine zc3 ?_) <;> (conv => whnf)))
            refine SCall.mk (Pure.state (rwith_ok hG w e (by omega)) rfl fun w' hw' => ?_)
            ((conv => whnf); repeat ((first | refine yf rfl ?_ | refine yt rfl ?_ | refine yo rfl ?_ | refine yc rfl ?_ | refine ys rfl ?_ | refine ye rfl ?_ | refine yn rfl ?_ | refine zw ?_ | refine zdt ?_ | refine zdf ?_ | refine znt ?_ | refine znf ?_ | refine zcd ?_ | refine zci ?_ | refine zc3 ?_) <;> (conv => whnf)))
            refine hR (s.pods.length - (i + 1)) _ _ (by omega) ⟨_, _, ?_, i + 1, w', by omega, rfl, hw.step hw' hm (hr rfl) (by omega), rfl, rfl⟩
            exact tL [0, 1, 2]
        · ((conv => whnf); repeat ((first | refine yf rfl ?_ | refine yt rfl ?_ | refine yo rfl ?_ | refine yc rfl ?_ | refine ys rfl ?_ | refine ye rfl ?_ | refine yn rfl ?_ | refine zw ?_ | refine zdt ?_ | refine zdf ?_ | refine znt ?_ | refine znf ?_ | refine zcd ?_ | refine zci ?_ | refine zc3 ?_) <;> (conv => whnf)))
          exact pure_free rfl ⟨w, rfl, hw⟩
      · ((conv => whnf); repeat ((first | refine yf rfl ?_ | refine yt rfl ?_ | refine yo rfl ?_ | refine yc rfl ?_ | refine ys rfl ?_ | refine ye rfl ?_ | refine yn rfl ?_ | refine zw ?_ | refine zdt ?_ | refine zdf ?_ | refine znt ?_ | refine znf ?_ | refine zcd ?_ | refine zci ?_ | refine zc3 ?_) <;> (conv => whnf)))
        exact pure_free rfl ⟨w, rfl, hw⟩
  · ((conv => whnf); repeat ((first | refine yf rfl ?_ | refine yt rfl ?_ | refine yo rfl ?_ | refine yc rfl ?_ | refine ys rfl ?_ | refine ye rfl ?_ | refine yn rfl ?_ | refine zw ?_ | refine zdt ?_ | refine zdf ?_ | refine znt ?_ | refine znf ?_ | refine zcd ?_ | refine zci ?_ | refine zc3 ?_) <;> (conv => whnf)))
    refine SLoopZ.by (fun q fr st => ∃ (i : Nat) (w : StD), i ≤ s.pods.length ∧ q = s.pods.length - i ∧ CutOf s w ∧
        fr = [(9, .i .i64 i), (3, .p (.l 2) 0), (2, .p (.l 1) 0), (1, .p (.l 0) 0)] ∧
        st = ⟨noG, ⟨3, [(2, .cs [.sl none 6 (w.nodes.map nodeR), .sl none 16 (w.pods.map podR)]), (1, .cs [.nils, .nils]), (0, .cs [.sl none 6 (s.nodes.map nodeR), .sl none 16 (s.pods.map podR)])]⟩⟩)
      s.pods.length ⟨_, _, ?_, 0, ⟨ns, []⟩, Nat.zero_le _, rfl, ⟨hns, Nat.zero_le _, (fun n h => by cases h), (fun n h => by cases h), List.Pairwise.nil⟩, rfl, rfl⟩ ?_
    · exact tL [0, 1, 2]
    clear hR hns
    rintro q fr st ⟨i, w, hi, rfl, hw, rfl, rfl⟩ R hR
    have hwm : (w.pods.map podR).length = w.pods.length := List.length_map _
    have hwl := hw.plen
    ((conv => whnf); repeat ((first | refine yf rfl ?_ | refine yt rfl ?_ | refine yo rfl ?_ | refine yc rfl ?_ | refine ys rfl ?_ | refine ye rfl ?_ | refine yn rfl ?_ | refine zw ?_ | refine zdt ?_ | refine zdf ?_ | refine znt ?_ | refine znf ?_ | refine zcd ?_ | refine zci ?_ | refine zc3 ?_) <;> (conv => whnf)))
    refine SIf.ds (fun hlt => ?_) (fun hge => ?_)
    · ((conv => whnf); repeat ((first | refine yf rfl ?_ | refine yt rfl ?_ | refine yo rfl ?_ | refine yc rfl ?_ | refine ys rfl ?_ | refine ye rfl ?_ | refine yn rfl ?_ | refine zw ?_ | refine zdt ?_ | refine zdf ?_ | refine znt ?_ | refine znf ?_ | refine zcd ?_ | refine zci ?_ | refine zc3 ?_) <;> (conv => whnf)))
      refine SIf.ds (fun h16 => ?_) (fun h16 => ?_)
      · have hi' : i < s.pods.length := by omega
        have he := List.getElem?_eq_getElem hi'
        have hm := List.getElem_mem hi'
        generalize s.pods[i] = e at he hm
        ((conv => whnf); repeat ((first | refine SEx.of (map_get' (by omega) he) ?_ | refine yf rfl ?_ | refine yt rfl ?_ | refine yo rfl ?_ | refine yc rfl ?_ | refine ys rfl ?_ | refine ye rfl ?_ | refine yn rfl ?_ | refine zw ?_ | refine zdt ?_ | refine zdf ?_ | refine znt ?_ | refine znf ?_ | refine zcd ?_ | refine zci ?_ | refine zc3 ?_) <;> (conv => whnf)))
        refine SCall.mk (Pure.any (rpod_ok hG e (hpo e hm).1 (hpo e hm).2) rfl fun r hr => ?_)
        cases r
        · ((conv => whnf); repeat ((first | refine yf rfl ?_ | refine yt rfl ?_ | refine yo rfl ?_ | refine yc rfl ?_ | refine ys rfl ?_ | refine ye rfl ?_ | refine yn rfl ?_ | refine zw ?_ | refine zdt ?_ | refine zdf ?_ | refine znt ?_ | refine znf ?_ | refine zcd ?_ | refine zci ?_ | refine zc3 ?_) <;> (conv => whnf)))
          refine hR (s.pods.length - (i + 1)) _ _ (by omega) ⟨_, _, ?_, i + 1, w, by omega, rfl, hw, rfl, rfl⟩
          exact tL [0, 1, 2]
        · ((conv => whnf); repeat ((first | refine SEx.of (map_get' (by omega) he) ?_ | refine yf rfl ?_ | refine yt rfl ?_ | refine yo rfl ?_ | refine yc rfl ?_ | refine ys rfl ?_ | refine ye rfl ?_ | refine yn rfl ?_ | refine zw ?_ | refine zdt ?_ | refine zdf ?_ | refine znt ?_ | refine znf ?_ | refine zcd ?_ | refine zci ?_ | refine zc3 ?_) <;> (conv => whnf)))
          refine SCall.mk (Pure.state (rwith_ok hG w e (by omega)) rfl fun w' hw' => ?_)
          ((conv => whnf); repeat ((first | refine yf rfl ?_ | refine yt rfl ?_ | refine yo rfl ?_ | refine yc rfl ?_ | refine ys rfl ?_ | refine ye rfl ?_ | refine yn rfl ?_ | refine zw ?_ | refine zdt ?_ | refine zdf ?_ | refine znt ?_ | refine znf ?_ | refine zcd ?_ | refine zci ?_ | refine zc3 ?_) <;> (conv => whnf)))
          refine hR (s.pods.length - (i + 1)) _ _ (by omega) ⟨_, _, ?_, i + 1, w', by omega, rfl, hw.step hw' hm (hr rfl) (by omega), rfl, rfl⟩
          exact tL [0, 1, 2]
      · ((conv => whnf); repeat ((first | refine yf rfl ?_ | refine yt rfl ?_ | refine yo rfl ?_ | refine yc rfl ?_ | refine ys rfl ?_ | refine ye rfl ?_ | refine yn rfl ?_ | refine zw ?_ | refine zdt ?_ | refine zdf ?_ | refine znt ?_ | refine znf ?_ | refine zcd ?_ | refine zci ?_ | refine zc3 ?_) <;> (conv => whnf)))
        exact pure_free rfl ⟨w, rfl, hw⟩
    · ((conv => whnf); repeat ((first | refine yf rfl ?_ | refine yt rfl ?_ | refine yo rfl ?_ | refine yc rfl ?_ | refine ys rfl ?_ | refine ye rfl ?_ | refine yn rfl ?_ | refine zw ?_ | refine zdt ?_ | refine zdf ?_ | refine znt ?_ | refine znf ?_ | refine zcd ?_ | refine zci ?_ | refine zc3 ?_) <;> (conv => whnf)))
      exact pure_free rfl ⟨w, rfl, hw⟩
end
end Go.Eng
