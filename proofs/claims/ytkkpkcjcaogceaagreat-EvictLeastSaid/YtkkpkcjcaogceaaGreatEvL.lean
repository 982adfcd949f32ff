/-
EvictLeast: nobody goes where nobody has to; nobody of the same priority, or a higher one, ever goes.
-/
import Derived.Test.YtkkpkcjcaogceaaGreatEvU
import Derived.Test.YtkkpkcjcaogceaaGreatLaw0
import Derived.Test.YtkkpkcjcaogceaaGreatFitW
import Derived.Test.YtkkpkcjcaogceaaGreatAfL
set_option linter.unusedVariables false
set_option linter.unusedSimpArgs false
namespace Go.Eng
open Go
theorem costGo_ge {s : StD} : ∀ {l : List Str} {m u : Int}, m ≤ (costGo s l m u).1
  | [], m, u => Int.le_refl _
  | n :: r, m, u => by
    rw [costGo]
    have := costGo_ge (s := s) (l := r) (m := maxI m ((s.pods.find? fun q => q.name == n).getD podZ).prio) (u := IntKind.i64.wrap (u + ((s.pods.find? fun q => q.name == n).getD podZ).prio))
    have h2 : m ≤ maxI m ((s.pods.find? fun q => q.name == n).getD podZ).prio := by unfold maxI; split <;> omega
    omega
theorem less_none {s : StD} {l : List Str} (h : l ≠ []) : lessC (-1, 0, 0) (costD s l) = true ∧ lessC (costD s l) (-1, 0, 0) = false := by
  have h1 := costGo_ge (s := s) (l := l) (m := -1) (u := 0)
  have h2 : 0 < l.length := List.length_pos_iff.2 h
  unfold lessC costD cmpI
  dsimp only
  generalize (costGo s l (-1) 0).1 = m at h1
  by_cases hm : m = -1
  · subst hm
    have e1 : ((0 : Int) < (l.length : Int)) := by omega
    have e2 : ¬ ((l.length : Int) < 0) := by omega
    simp [e1, e2, h, h2]
  · have e1 : (-1 : Int) < m := by omega
    have e2 : ¬ m < -1 := by omega
    simp [e1, e2]
theorem less_self (c : Int × Int × Int) : lessC c c = false := by
  unfold lessC cmpI
  simp
def BestAt (s : StD) (p : PodD) (N : List NodeD) (b : BestV) : Prop :=
  match N.filter fun n => feasD s p n.name with
  | n :: _ => b = some (n.name, [], (-1, 0, 0))
  | [] => ∀ d, b = some d → d.2.1 ≠ [] ∧ d.2.2 = costD s d.2.1
theorem cost_nil (s : StD) : costD s [] = (-1, 0, 0) := rfl
theorem BestAt.step {s : StD} {p : PodD} (hn : s.pods.Pairwise fun a b => a.name ≠ b.name) {N : List NodeD} {n : NodeD} {b : BestV} (h : BestAt s p N b) : BestAt s p (N ++ [n]) (bestStep s p b n) := by
  unfold BestAt at h ⊢
  rw [List.filter_append]
  cases hf : feasD s p n.name with
  | true =>
    have hv := vict_feas (names_inj hn) hf
    rw [List.filter_cons_of_pos (p := fun n : NodeD => feasD s p n.name) hf, List.filter_nil]
    cases hN : N.filter fun n => feasD s p n.name with
    | nil =>
      rw [hN] at h
      dsimp only at h
      show bestStep s p b n = some (n.name, [], (-1, 0, 0))
      unfold bestStep
      rw [hv]
      cases b with
      | none => rfl
      | some d =>
        obtain ⟨h1, h2⟩ := h d rfl
        dsimp only
        rw [cost_nil, h2, if_pos (less_none h1).1]
    | cons m r =>
      rw [hN] at h
      dsimp only at h
      show bestStep s p b n = some (m.name, [], (-1, 0, 0))
      subst h
      unfold bestStep
      rw [hv]
      dsimp only
      rw [cost_nil, if_neg (by rw [less_self]; decide)]
  | false =>
    rw [List.filter_cons_of_neg (p := fun n : NodeD => feasD s p n.name) (by rw [hf]; decide), List.filter_nil, List.append_nil]
    have hnil : ∀ l, victD s p n.name = some l → l ≠ [] := fun l hl e => by
      rw [e] at hl
      rw [vict_nil hl] at hf; cases hf
    cases hN : N.filter fun n => feasD s p n.name with
    | nil =>
      rw [hN] at h
      dsimp only at h ⊢
      intro d hd
      unfold bestStep at hd
      cases hv : victD s p n.name with
      | none => rw [hv] at hd; exact h d hd
      | some l =>
        rw [hv] at hd
        cases b with
        | none => cases hd; exact ⟨hnil l hv, rfl⟩
        | some d0 =>
          dsimp only at hd
          split at hd
          · cases hd; exact ⟨hnil l hv, rfl⟩
          · exact h d hd
    | cons m r =>
      rw [hN] at h
      dsimp only at h ⊢
      subst h
      unfold bestStep
      cases hv : victD s p n.name with
      | none => rfl
      | some l =>
        dsimp only
        rw [if_neg (by rw [(less_none (hnil l hv)).2]; decide)]
theorem best_at {s : StD} {p : PodD} (hn : s.pods.Pairwise fun a b => a.name ≠ b.name) : ∀ (B A : List NodeD) (b : BestV), BestAt s p A b → BestAt s p (A ++ B) (B.foldl (bestStep s p) b)
  | [], A, b, h => by rw [List.append_nil]; exact h
  | n :: r, A, b, h => by
    rw [List.foldl_cons]
    have := best_at hn r (A ++ [n]) _ (h.step hn)
    rwa [List.append_assoc] at this
theorem evict_first {s : StD} {p : PodD} (hn : s.pods.Pairwise fun a b => a.name ≠ b.name) : (∀ x r, whereD s p = x :: r → evictD s p = some (x, [], (-1, 0, 0))) ∧ (whereD s p = [] → ∀ d, evictD s p = some d → d.2.1 ≠ []) := by
  have h := best_at hn s.nodes [] none (show BestAt s p [] none from fun d hd => by cases hd)
  rw [List.nil_append] at h
  unfold BestAt at h
  unfold whereD evictD
  cases hf : s.nodes.filter fun n => feasD s p n.name with
  | nil =>
    rw [hf] at h
    exact ⟨fun x r e => by simp at e, fun _ d hd => (h d hd).1⟩
  | cons m t =>
    rw [hf] at h
    refine ⟨fun x r e => ?_, fun e => by cases e⟩
    rw [List.map_cons] at e
    rw [← (List.cons.inj e).1]
    exact h
section
variable {P : Program} (hG : FnsOk P AF.fns.get)
include hG
set_option maxHeartbeats 16000000 in
set_option maxRecDepth 20000 in
theorem evictLeast_ok (hk : okFn P 4 AF.el = true) (hb : ACall P 9 [] noG (fun r _ => r = .b true)) (hcmp : CmpOk P) (hS : SortOk P 46 42)
    (s : StD) (p : PodD) (hs : s.arg) (hp : p.fit ∧ p.sok) : ACall P 4 [stV s, .agg (podR p)] noG (fun r _ => r = .b true) := by
  refine fn_sz hk rfl ?_
  ((conv => whnf); repeat ((first | refine yf rfl ?_ | refine yt rfl ?_ | refine yo rfl ?_ | refine yc rfl ?_ | refine ys rfl ?_ | refine ye rfl ?_ | refine yn rfl ?_ | refine zw ?_ | refine zdt ?_ | refine zdf ?_ | refine znt ?_ | refine znf ?_ | refine zcd ?_ | refine zci ?_ | refine zc3 ?_) <;> (conv => whnf)))
  refine ⟨hb.frame rfl fun v h' hv => ?_⟩
  subst hv
  refine ⟨rfl, ?_⟩
  ((conv => whnf); repeat ((first | refine yf rfl ?_ | refine yt rfl ?_ | refine yo rfl ?_ | refine yc rfl ?_ | refine ys rfl ?_ | refine ye rfl ?_ | refine yn rfl ?_ | refine zw ?_ | refine zdt ?_ | refine zdf ?_ | refine znt ?_ | refine znf ?_ | refine zcd ?_ | refine zci ?_ | refine zc3 ?_) <;> (conv => whnf)))
  refine SCall.mk (Pure.state (hs.cut hG) rfl fun w hw => ?_)
  have hwo := hw.ok hs
  have hsm : Small w := fun n hn => by
    have := hw.nodes.sub n hn
    omega
  have h6 : w.nodes.length ≤ 6 := hw.nodes.len
  have h16 := hw.plen
  have hroom : ∀ q ∈ w.pods, PodRoom q := fun q hq => (hw.pmay q hq).room
  have hnam := hw.pnam
  have hso := hw.nodes.so
  have hlm : (w.nodes.map nodeR).length = w.nodes.length := List.length_map _
  ((conv => whnf); repeat ((first | refine yf rfl ?_ | refine yt rfl ?_ | refine yo rfl ?_ | refine yc rfl ?_ | refine ys rfl ?_ | refine ye rfl ?_ | refine yn rfl ?_ | refine zw ?_ | refine zdt ?_ | refine zdf ?_ | refine znt ?_ | refine znf ?_ | refine zcd ?_ | refine zci ?_ | refine zc3 ?_) <;> (conv => whnf)))
  refine SLoopZ.by (fun q fr st => ∃ i : Nat, i ≤ w.nodes.length ∧ q = w.nodes.length - i ∧
      fr = [(21, .i .i64 i), (20, .i .i64 (w.nodes.map nodeR).length), (19, .sl none 6 (w.nodes.map nodeR)), (3, .p (.l 1) 0), (2, .p (.l 0) 0)] ∧
      st = ⟨noG, ⟨2, [(1, .cs (podR p)), (0, .cs [.sl none 6 (w.nodes.map nodeR), .sl none 16 (w.pods.map podR)])]⟩⟩)
    w.nodes.length ⟨_, _, ?_, 0, Nat.zero_le _, rfl, rfl, rfl⟩ ?_
  · exact tL [0, 1]
  rintro q fr st ⟨i, hi, rfl, rfl, rfl⟩ R hR
  (conv => whnf)
  refine SIf.ds (fun hlt => ?_) (fun hge => ?_)
  · have hi' : i < w.nodes.length := by omega
    have he := List.getElem?_eq_getElem hi'
    generalize w.nodes[i] = e at he
    have hv := vict_ok hG hcmp hS w p e.name hwo hp.1 hsm (by omega) (by omega) hroom
    have k1 := feas_ok hG w p e.name hwo hp.1 hsm
    cases hf : feasD w p e.name with
    | true =>
      rw [vict_feas (names_inj hnam) hf] at hv
      rw [hf] at k1
      ((conv => whnf); repeat ((first | refine SCall.app (Pure.go hv rfl) ?_ | refine SCall.app (Pure.go k1 rfl) ?_ | refine SEx.of (map_get' (by omega) he) ?_ | refine yf rfl ?_ | refine yt rfl ?_ | refine yo rfl ?_ | refine yc rfl ?_ | refine ys rfl ?_ | refine ye rfl ?_ | refine yn rfl ?_ | refine zw ?_ | refine zdt ?_ | refine zdf ?_ | refine znt ?_ | refine znf ?_ | refine zcd ?_ | refine zci ?_ | refine zc3 ?_) <;> (conv => whnf)))
      refine hR (w.nodes.length - (i + 1)) _ _ (by omega) ⟨_, _, ?_, i + 1, by omega, rfl, rfl, rfl⟩
      exact tL [0, 1]
    | false =>
      rw [hf] at k1
      cases hvd : victD w p e.name with
      | none =>
        rw [hvd] at hv
        ((conv => whnf); repeat ((first | refine SCall.app (Pure.go hv rfl) ?_ | refine SCall.app (Pure.go k1 rfl) ?_ | refine SEx.of (map_get' (by omega) he) ?_ | refine yf rfl ?_ | refine yt rfl ?_ | refine yo rfl ?_ | refine yc rfl ?_ | refine ys rfl ?_ | refine ye rfl ?_ | refine yn rfl ?_ | refine zw ?_ | refine zdt ?_ | refine zdf ?_ | refine znt ?_ | refine znf ?_ | refine zcd ?_ | refine zci ?_ | refine zc3 ?_) <;> (conv => whnf)))
        refine hR (w.nodes.length - (i + 1)) _ _ (by omega) ⟨_, _, ?_, i + 1, by omega, rfl, rfl, rfl⟩
        exact tL [0, 1]
      | some l =>
        rw [hvd] at hv
        cases l with
        | nil => rw [vict_nil hvd] at hf; cases hf
        | cons x r =>
          ((conv => whnf); repeat ((first | refine SCall.app (Pure.go hv rfl) ?_ | refine SCall.app (Pure.go k1 rfl) ?_ | refine SIf.df (by simp only [List.map_cons, List.length_cons]; omega) ?_ | refine SEx.of (map_get' (by omega) he) ?_ | refine yf rfl ?_ | refine yt rfl ?_ | refine yo rfl ?_ | refine yc rfl ?_ | refine ys rfl ?_ | refine ye rfl ?_ | refine yn rfl ?_ | refine zw ?_ | refine zdt ?_ | refine zdf ?_ | refine znt ?_ | refine znf ?_ | refine zcd ?_ | refine zci ?_ | refine zc3 ?_) <;> (conv => whnf)))
          refine hR (w.nodes.length - (i + 1)) _ _ (by omega) ⟨_, _, ?_, i + 1, by omega, rfl, rfl, rfl⟩
          exact tL [0, 1]
  · have k2 := evbest_ok hG hcmp hS w p hwo hp.1 hsm h6 (by omega) hroom hso
    have k3 := where_ok hG hcmp w p hwo hp.1 hsm h6 hso
    obtain ⟨c1, c2⟩ := evict_first (p := p) hnam
    cases hwd : whereD w p with
    | nil =>
      have c2 := c2 hwd
      rw [hwd] at k3
      cases hev : evictD w p with
      | none =>
        rw [hev] at k2
        ((conv => whnf); repeat ((first | refine SCall.app (Pure.go k2 rfl) ?_ | refine SCall.app (Pure.go k3 rfl) ?_ | refine yf rfl ?_ | refine yt rfl ?_ | refine yo rfl ?_ | refine yc rfl ?_ | refine ys rfl ?_ | refine ye rfl ?_ | refine yn rfl ?_ | refine zw ?_ | refine zdt ?_ | refine zdf ?_ | refine znt ?_ | refine znf ?_ | refine zcd ?_ | refine zci ?_ | refine zc3 ?_) <;> (conv => whnf)))
      | some d =>
        have := c2 d hev
        obtain ⟨d1, d2, dc⟩ := d
        rw [hev] at k2
        cases d2 with
        | nil => exact absurd rfl this
        | cons x r =>
          ((conv => whnf); repeat ((first | refine SCall.app (Pure.go k2 rfl) ?_ | refine SCall.app (Pure.go k3 rfl) ?_ | refine yf rfl ?_ | refine yt rfl ?_ | refine yo rfl ?_ | refine yc rfl ?_ | refine ys rfl ?_ | refine ye rfl ?_ | refine yn rfl ?_ | refine zw ?_ | refine zdt ?_ | refine zdf ?_ | refine znt ?_ | refine znf ?_ | refine zcd ?_ | refine zci ?_ | refine zc3 ?_) <;> (conv => whnf)))
          refine congrArg V.b (decide_eq_true ?_)
          simp only [List.map_cons, List.length_cons]
          omega
    | cons x r =>
      rw [c1 x r hwd] at k2
      rw [hwd] at k3
      have hpos : (0 : Int) < ((List.map strR (x :: r)).length : Nat) := by simp only [List.map_cons, List.length_cons]; omega
      have hxx : (x == x) = true := by simp
      have hnn : (p.name == p.name) = true := by simp
      ((conv => whnf); repeat ((first | refine SCall.app (Pure.go k2 rfl) ?_ | refine SCall.app (Pure.go k3 rfl) ?_ | refine SIf.dt hpos ?_ | refine SIf.tt hxx ?_ | refine SIf.tt hnn ?_ | refine yf rfl ?_ | refine yt rfl ?_ | refine yo rfl ?_ | refine yc rfl ?_ | refine ys rfl ?_ | refine ye rfl ?_ | refine yn rfl ?_ | refine zw ?_ | refine zdt ?_ | refine zdf ?_ | refine znt ?_ | refine znf ?_ | refine zcd ?_ | refine zci ?_ | refine zc3 ?_) <;> (conv => whnf)))
      exact congrArg V.b hnn
end
end Go.Eng
