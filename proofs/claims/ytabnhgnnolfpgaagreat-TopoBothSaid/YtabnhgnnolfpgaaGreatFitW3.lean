/-
A state without some pods; who may go somewhere may go there without others.
-/
import Derived.Test.YtabnhgnnolfpgaaGreatFitW2
import Derived.Test.YtabnhgnnolfpgaaGreatFitW
set_option linter.unusedVariables false
set_option linter.unusedSimpArgs false
namespace Go.Eng
open Go
def withoutD (s : StD) (gs : List Str) : StD := ⟨s.nodes, s.pods.filter fun q => !(gs.any fun g => q.name == g)⟩
theorem pure_aggm {Q : V → Prop} {k sz a n : Nat} {es ds : List (List V)} {ns : List (List V)} {h' : Heap} (h : h'.get k = some (.arr sz es)) (hd : deepElems es = some ds) (hn : a + n ≤ ds.length) (hq : Q (.agg [.sl none 6 ns, .sl none sz ((ds.drop a).take n)])) : PureAt Q (.agg [.sl none 6 ns, .ms (.g k) sz a n]) h' :=
  pure_ce (u := .agg [.sl none 6 ns, .sl none sz ((ds.drop a).take n)]) (fz1 k sz ds) (fz1_of h hd) (.inl (.inr (.inl ⟨_, _, rfl, rfl, ⟨ce_flat rfl, .frz (by simp [fz1]) hn rfl, trivial⟩⟩))) rfl hq
section
variable {P : Program} (hG : FnsOk P AF.fns.get)
include hG
set_option maxHeartbeats 4000000 in
set_option maxRecDepth 10000 in
theorem nodes_ok (s : StD) (h6 : s.nodes.length ≤ 6) (hsm : Small s) : Pure P 59 [stV s] (· = .sl none 6 (s.nodes.map nodeR)) := by
  have hlm : (s.nodes.map nodeR).length = s.nodes.length := List.length_map _
  refine pure_fn (hG _ AF.f59 rfl) rfl ?_
  ((conv => whnf); repeat ((first | refine yf rfl ?_ | refine yt rfl ?_ | refine yo rfl ?_ | refine yc rfl ?_ | refine ys rfl ?_ | refine ye rfl ?_ | refine yn rfl ?_ | refine zw ?_ | refine zdt ?_ | refine zdf ?_ | refine znt ?_ | refine znf ?_ | refine zcd ?_ | refine zci ?_ | refine zc3 ?_) <;> (conv => whnf)))
  refine SLoopZ.by (fun q fr st => ∃ (i : Nat) (b : Bool) (es : List NodeD), i ≤ s.nodes.length ∧ q = s.nodes.length - i ∧ es = s.nodes.take i ∧ (b = false → es = []) ∧
      fr = [(9, .i .i64 i), (8, .i .i64 (s.nodes.map nodeR).length), (7, .sl none 6 (s.nodes.map nodeR)), (3, accV b 0 6 (es.map nodeR))] ∧ st = accS b 0 [])
    s.nodes.length ⟨_, _, ?_, 0, false, [], Nat.zero_le _, rfl, rfl, fun _ => rfl, rfl, rfl⟩ ?_
  · exact tL0
  rintro q fr st ⟨i, b, es, hi, rfl, hes, hb, rfl, rfl⟩ R hR
  have hesl : es.length ≤ i := by
    rw [hes]
    exact List.length_take_le _ _
  (conv => whnf)
  refine SIf.ds (fun hlt => ?_) (fun hge => ?_)
  · have hi' : i < s.nodes.length := by omega
    have he := List.getElem?_eq_getElem hi'
    have hm := List.getElem_mem hi'
    generalize s.nodes[i] = e at he hm
    have hc := copyNode_ok hG e (hsm e hm).1 (hsm e hm).2
    have h1 : es ++ [e] = s.nodes.take (i + 1) := by rw [take_succ' he, ← hes]
    have hint : es.map nodeR ++ [nodeR e] = (es ++ [e]).map nodeR := by rw [List.map_append]; rfl
    cases b
    · obtain rfl : es = [] := hb rfl
      ((conv => whnf); repeat ((first | refine SCall.app (Pure.go hc rfl) ?_ | refine SEx.of (map_get' (by omega) he) ?_ | refine yf rfl ?_ | refine yt rfl ?_ | refine yo rfl ?_ | refine yc rfl ?_ | refine ys rfl ?_ | refine ye rfl ?_ | refine yn rfl ?_ | refine zw ?_ | refine zdt ?_ | refine zdf ?_ | refine znt ?_ | refine znf ?_ | refine zcd ?_ | refine zci ?_ | refine zc3 ?_) <;> (conv => whnf)))
      refine hR (s.nodes.length - (i + 1)) _ _ (by omega) ⟨_, _, ?_, i + 1, true, [] ++ [e], by omega, rfl, h1, (fun h => by cases h), rfl, rfl⟩
      exact tL [2]
    · ((conv => whnf); repeat ((first | refine SCall.app (Pure.go hc rfl) ?_ | refine SEx.of (congrArg some hint) ?_ | refine SChk.mk (by simp [roomOk]; omega) ?_ | refine SIf.df (by simp only [List.length_cons, List.length_nil, List.length_map]; omega) ?_ | refine SEx.of (map_get' (by omega) he) ?_ | refine yf rfl ?_ | refine yt rfl ?_ | refine yo rfl ?_ | refine yc rfl ?_ | refine ys rfl ?_ | refine ye rfl ?_ | refine yn rfl ?_ | refine zw ?_ | refine zdt ?_ | refine zdf ?_ | refine znt ?_ | refine znf ?_ | refine zcd ?_ | refine zci ?_ | refine zc3 ?_) <;> (conv => whnf)))
      refine hR (s.nodes.length - (i + 1)) _ _ (by omega) ⟨_, _, ?_, i + 1, true, es ++ [e], by omega, rfl, h1, (fun h => by cases h), rfl, rfl⟩
      exact tL [3]
  · have hall : es = s.nodes := by rw [hes, List.take_of_length_le (by omega)]
    rw [← hall]
    cases b
    · obtain rfl : es = [] := hb rfl
      ((conv => whnf); repeat ((first | refine yf rfl ?_ | refine yt rfl ?_ | refine yo rfl ?_ | refine yc rfl ?_ | refine ys rfl ?_ | refine ye rfl ?_ | refine yn rfl ?_ | refine zw ?_ | refine zdt ?_ | refine zdf ?_ | refine znt ?_ | refine znf ?_ | refine zcd ?_ | refine zci ?_ | refine zc3 ?_) <;> (conv => whnf)))
      exact pure_nil rfl
    · ((conv => whnf); repeat ((first | refine yf rfl ?_ | refine yt rfl ?_ | refine yo rfl ?_ | refine yc rfl ?_ | refine ys rfl ?_ | refine ye rfl ?_ | refine yn rfl ?_ | refine zw ?_ | refine zdt ?_ | refine zdf ?_ | refine znt ?_ | refine znf ?_ | refine zcd ?_ | refine zci ?_ | refine zc3 ?_) <;> (conv => whnf)))
      exact pure_tok rfl
set_option maxHeartbeats 4000000 in
set_option maxRecDepth 10000 in
theorem without_ok (s : StD) (gs : List Str) (h6 : s.nodes.length ≤ 6) (hs : s.ok) (hsm : Small s) (hr : ∀ q ∈ s.pods, PodRoom q) (hgl : LenOk gs) : Pure P 21 [stV s, .sl none 1 (gs.map strR)] (· = stV (withoutD s gs)) := by
  have hlm : (s.pods.map podR).length = s.pods.length := List.length_map _
  have hl := hs.pods
  have hsome := hs.some
  unfold LenOk at hl
  have hn := nodes_ok hG s h6 hsm
  obtain ⟨f, hf⟩ : ∃ f : PodD → Bool, f = fun q => !(gs.any fun g => q.name == g) := ⟨_, rfl⟩
  refine pure_fn (hG _ AF.f21 rfl) rfl ?_
  ((conv => whnf); repeat ((first | refine SCall.app (Pure.go hn rfl) ?_ | refine yf rfl ?_ | refine yt rfl ?_ | refine yo rfl ?_ | refine yc rfl ?_ | refine ys rfl ?_ | refine ye rfl ?_ | refine yn rfl ?_ | refine zw ?_ | refine zdt ?_ | refine zdf ?_ | refine znt ?_ | refine znf ?_ | refine zcd ?_ | refine zci ?_ | refine zc3 ?_) <;> (conv => whnf)))
  refine SLoopZ.by (fun q fr st => ∃ (i : Nat) (b : Bool) (es : List PodD) (n : Nat), i ≤ s.pods.length ∧ q = s.pods.length - i ∧ es = (s.pods.take i).filter f ∧ (b = false → es = []) ∧ n = es.length ∧
      fr = [(14, .i .i64 i), (13, .i .i64 (s.pods.map podR).length), (12, .sl none 16 (s.pods.map podR)), (5, .p (.l 1) 0), (4, .p (.l 0) 0), (1, .sl none 1 (gs.map strR))] ∧
      st = ⟨accG b 16 (es.map podR), ⟨2, [(1, .cs [.sl none 6 (s.nodes.map nodeR), accM b 16 n]), (0, .cs [.nils, .nils])]⟩⟩)
    s.pods.length ⟨_, _, ?_, 0, false, [], 0, Nat.zero_le _, rfl, rfl, fun _ => rfl, rfl, rfl, rfl⟩ ?_
  · exact tG [] [1, 2]
  rintro q fr st ⟨i, b, es, n, hi, rfl, hes, hb, hn, rfl, rfl⟩ R hR
  have hesl : es.length ≤ i := by
    rw [hes]
    exact Nat.le_trans (List.length_filter_le _ _) (List.length_take_le _ _)
  have hem : (es.map podR).length = es.length := List.length_map _
  (conv => whnf)
  refine SIf.ds (fun hlt => ?_) (fun hge => ?_)
  · have hi' : i < s.pods.length := by omega
    have he := List.getElem?_eq_getElem hi'
    have hme := hr _ (List.getElem_mem hi')
    generalize s.pods[i] = e at he hme
    have hc := copyPod_ok hG e hme
    have hct := ct_string hG gs e.name hgl
    have hfe : f e = !(gs.any fun g => e.name == g) := by rw [hf]
    have h1 : f e = true → es ++ [e] = (s.pods.take (i + 1)).filter f := fun h => by
      rw [take_succ' he, List.filter_append, ← hes]
      simp [h]
    have h0 : f e = false → es = (s.pods.take (i + 1)).filter f := fun h => by
      rw [take_succ' he, List.filter_append, ← hes]
      simp [h]
    rw [hfe] at h1 h0
    generalize (gs.any fun g => e.name == g) = c at hct h1 h0
    cases c <;> cases b
    · obtain rfl : es = [] := hb rfl
      ((conv => whnf); repeat ((first | refine SCall.app (Pure.go hct rfl) ?_ | refine SCall.app (Pure.go hc rfl) ?_ | refine SEx.of (map_get' (by omega) he) ?_ | refine yf rfl ?_ | refine yt rfl ?_ | refine yo rfl ?_ | refine yc rfl ?_ | refine ys rfl ?_ | refine ye rfl ?_ | refine yn rfl ?_ | refine zw ?_ | refine zdt ?_ | refine zdf ?_ | refine znt ?_ | refine znf ?_ | refine zcd ?_ | refine zci ?_ | refine zc3 ?_) <;> (conv => whnf)))
      refine hR (s.pods.length - (i + 1)) _ _ (by omega) ⟨_, _, ?_, i + 1, true, [] ++ [e], 1, by omega, rfl, h1 rfl, (fun h => by cases h), rfl, rfl, rfl⟩
      exact tG [1] [0, 1]
    · ((conv => whnf); repeat ((first | refine SCall.app (Pure.go hct rfl) ?_ | refine SCall.app (Pure.go hc rfl) ?_ | refine SChk.mk (by simp [roomOk]; omega) ?_ | refine SIf.df (by simp only [List.length_cons, List.length_nil, List.length_map]; omega) ?_ | refine SEx.of (map_get' (by omega) he) ?_ | refine yf rfl ?_ | refine yt rfl ?_ | refine yo rfl ?_ | refine yc rfl ?_ | refine ys rfl ?_ | refine ye rfl ?_ | refine yn rfl ?_ | refine zw ?_ | refine zdt ?_ | refine zdf ?_ | refine znt ?_ | refine znf ?_ | refine zcd ?_ | refine zci ?_ | refine zc3 ?_) <;> (conv => whnf)))
      refine hR (s.pods.length - (i + 1)) _ _ (by omega) ⟨_, _, ?_, i + 1, true, es ++ [e], n + 1, by omega, rfl, h1 rfl, (fun h => by cases h), by simp [hn], rfl, rfl⟩
      exact tG [2] [0, 1]
    · obtain rfl : es = [] := hb rfl
      ((conv => whnf); repeat ((first | refine SCall.app (Pure.go hct rfl) ?_ | refine SEx.of (map_get' (by omega) he) ?_ | refine yf rfl ?_ | refine yt rfl ?_ | refine yo rfl ?_ | refine yc rfl ?_ | refine ys rfl ?_ | refine ye rfl ?_ | refine yn rfl ?_ | refine zw ?_ | refine zdt ?_ | refine zdf ?_ | refine znt ?_ | refine znf ?_ | refine zcd ?_ | refine zci ?_ | refine zc3 ?_) <;> (conv => whnf)))
      refine hR (s.pods.length - (i + 1)) _ _ (by omega) ⟨_, _, ?_, i + 1, false, [], 0, by omega, rfl, h0 rfl, fun _ => rfl, rfl, rfl, rfl⟩
      exact tG [] [0, 1]
    · ((conv => whnf); repeat ((first | refine SCall.app (Pure.go hct rfl) ?_ | refine SEx.of (map_get' (by omega) he) ?_ | refine yf rfl ?_ | refine yt rfl ?_ | refine yo rfl ?_ | refine yc rfl ?_ | refine ys rfl ?_ | refine ye rfl ?_ | refine yn rfl ?_ | refine zw ?_ | refine zdt ?_ | refine zdf ?_ | refine znt ?_ | refine znf ?_ | refine zcd ?_ | refine zci ?_ | refine zc3 ?_) <;> (conv => whnf)))
      refine hR (s.pods.length - (i + 1)) _ _ (by omega) ⟨_, _, ?_, i + 1, true, es, n, by omega, rfl, h0 rfl, (fun h => by cases h), hn, rfl, rfl⟩
      exact tG [0] [0, 1]
  · have hall : es = (withoutD s gs).pods := by
      rw [hes, List.take_of_length_le (by omega), hf]
      rfl
    have fin : stV ⟨s.nodes, es⟩ = stV (withoutD s gs) := by rw [hall]; rfl
    cases b
    · obtain rfl : es = [] := hb rfl
      ((conv => whnf); repeat ((first | refine yf rfl ?_ | refine yt rfl ?_ | refine yo rfl ?_ | refine yc rfl ?_ | refine ys rfl ?_ | refine ye rfl ?_ | refine yn rfl ?_ | refine zw ?_ | refine zdt ?_ | refine zdf ?_ | refine znt ?_ | refine znf ?_ | refine zcd ?_ | refine zci ?_ | refine zc3 ?_) <;> (conv => whnf)))
      exact pure_agg1 (by ((repeat (first | exact trivial | refine ⟨by first | exact ce_flat rfl | exact .nil | exact .tok | exact .ren rfl (Nat.le_of_ble_eq_true rfl) | exact .rows (by ((repeat (first | exact .nil | refine .cons (by ((repeat (first | exact .nil | refine .cons (by first | exact .refl _ | exact .nil _) ?_)); first | done | fail)) ?_)); first | done | fail)), ?_⟩)); first | done | fail)) rfl fin
    · ((conv => whnf); repeat ((first | refine yf rfl ?_ | refine yt rfl ?_ | refine yo rfl ?_ | refine yc rfl ?_ | refine ys rfl ?_ | refine ye rfl ?_ | refine yn rfl ?_ | refine zw ?_ | refine zdt ?_ | refine zdf ?_ | refine znt ?_ | refine znf ?_ | refine zcd ?_ | refine zci ?_ | refine zc3 ?_) <;> (conv => whnf)))
      refine pure_aggm rfl (deep_map (fun _ => rfl) es) (by omega) ?_
      rw [List.drop_zero, List.take_of_length_le (by omega)]
      exact fin
end
/-! The plain law. -/
def LeR (x y : ResD) : Prop := (0 ≤ x.a ∧ x.a ≤ y.a) ∧ (0 ≤ x.b ∧ x.b ≤ y.b) ∧ 0 ≤ x.c ∧ x.c ≤ y.c
theorem addD_some {x y t : ResD} (h : addD x y = some t) : ((0 ≤ x.a ∧ 0 ≤ y.a ∧ x.a + y.a ≤ 4611686018427387904) ∧ (0 ≤ x.b ∧ 0 ≤ y.b ∧ x.b + y.b ≤ 4611686018427387904) ∧ 0 ≤ x.c ∧ 0 ≤ y.c ∧ x.c + y.c ≤ 4611686018427387904) ∧ t = ⟨x.a + y.a, x.b + y.b, x.c + y.c⟩ := by
  by_cases hc : (0 ≤ x.a ∧ 0 ≤ y.a ∧ x.a + y.a ≤ 4611686018427387904) ∧ (0 ≤ x.b ∧ 0 ≤ y.b ∧ x.b + y.b ≤ 4611686018427387904) ∧ 0 ≤ x.c ∧ 0 ≤ y.c ∧ x.c + y.c ≤ 4611686018427387904
  · rw [addD_t hc] at h
    cases h
    exact ⟨hc, rfl⟩
  · rw [addD_f hc] at h
    cases h
theorem add_le {x x' y t : ResD} (h : addD x y = some t) (hl : LeR x' x) : ∃ t', addD x' y = some t' ∧ LeR t' t := by
  obtain ⟨h1, rfl⟩ := addD_some h
  unfold LeR at hl ⊢
  exact ⟨_, addD_t (by omega), by dsimp only; omega⟩
theorem sum_less {f : PodD → Bool} : ∀ {l : List PodD} {a a' u : ResD}, LeR a' a → sumD a (l.map (·.req)) = some u → ∃ u', sumD a' ((l.filter f).map (·.req)) = some u' ∧ LeR u' u
  | [], a, a', u, hl, h => by
    cases h
    exact ⟨a', rfl, hl⟩
  | p :: r, a, a', u, hl, h => by
    rw [List.map_cons, sumD] at h
    cases ha : addD a p.req with
    | none => rw [ha] at h; cases h
    | some t =>
      rw [ha] at h
      cases hf : f p
      · rw [List.filter_cons_of_neg (by rw [hf]; decide)]
        refine sum_less (a := t) ?_ h
        obtain ⟨h1, rfl⟩ := addD_some ha
        unfold LeR at hl ⊢
        dsimp only
        omega
      · rw [List.filter_cons_of_pos hf, List.map_cons, sumD]
        obtain ⟨t', ht, hl'⟩ := add_le ha hl
        rw [ht]
        exact sum_less hl' h
theorem used_less {s : StD} {gs : List Str} {node : Str} {u : ResD} (h : usedD s node = some u) : ∃ u', usedD (withoutD s gs) node = some u' ∧ LeR u' u := by
  have : onD (withoutD s gs) node = (onD s node).filter fun q => !(gs.any fun g => q.name == g) := by
    unfold onD withoutD
    rw [List.filter_filter, List.filter_filter]
    congr 1
    funext q
    exact Bool.and_comm _ _
  unfold usedD at h ⊢
  rw [this]
  exact sum_less (by unfold LeR; decide) h
theorem fits_less {t t' c : ResD} (h : fitsD t c = true) (hl : LeR t' t) : fitsD t' c = true := by
  unfold LeR at hl
  simp only [fitsD, Bool.and_eq_true, decide_eq_true_eq] at h ⊢
  omega
theorem any_sub {α : Type} {p f : α → Bool} {l : List α} (h : l.any p = false) : (l.filter f).any p = false := by
  rw [List.any_eq_false] at h ⊢
  exact fun x hx => h x (List.mem_filter.1 hx).1
theorem without_feas {s : StD} {p : PodD} {gs : List Str} {node : Str} (h : feasD s p node = true) (hsk : p.skew ≤ 0) : feasD (withoutD s gs) p node = true := by
  unfold feasD at h ⊢
  have hn : (withoutD s gs).nodes = s.nodes := rfl
  rw [hn]
  cases hf : s.nodes.find? (fun n => n.name == node) with
  | none => rw [hf] at h; cases h
  | some n =>
    rw [hf] at h
    dsimp only at h ⊢
    simp only [eachD, Bool.and_eq_true] at h ⊢
    obtain ⟨h0, h1, h2, h3, h4, h5, h6⟩ := h
    refine ⟨h0, ?_, ?_, h3, h4, ?_, ?_⟩
    · unfold roomD at h1 ⊢
      cases hu : usedD s n.name with
      | none => rw [hu] at h1; cases h1
      | some u =>
        rw [hu] at h1
        dsimp only at h1
        cases ha : addD u p.req with
        | none => rw [ha] at h1; cases h1
        | some t =>
          rw [ha] at h1
          obtain ⟨u', hu', hl⟩ := used_less (gs := gs) hu
          obtain ⟨t', ht', hl'⟩ := add_le ha hl
          rw [hu']
          dsimp only
          rw [ht']
          exact fits_less h1 hl'
    · unfold portsD at h2 ⊢
      rw [Bool.not_eq_true'] at h2 ⊢
      exact any_sub h2
    · unfold apartD at h5 ⊢
      rw [Bool.and_eq_true, Bool.not_eq_true', Bool.not_eq_true'] at h5 ⊢
      exact ⟨h5.1, any_sub h5.2⟩
    · rw [evenD, if_pos hsk]
theorem where_mem {s : StD} {p : PodD} {x : Str} (h : x ∈ whereD s p) : feasD s p x = true := by
  obtain ⟨n, hn, rfl⟩ := List.mem_map.1 h
  exact (List.mem_filter.1 hn).2
end Go.Eng
