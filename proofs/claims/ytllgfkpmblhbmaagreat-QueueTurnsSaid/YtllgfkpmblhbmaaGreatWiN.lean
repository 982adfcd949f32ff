/-
A state of no nodes with a pod: its nodes stay nil.
-/
import Derived.Test.YtllgfkpmblhbmaaGreatWiB
set_option linter.unusedVariables false
set_option linter.unusedSimpArgs false
namespace Go.Eng
open Go
theorem pure_aggm0 {Q : V → Prop} {k sz a n : Nat} {es ds : List (List V)} {h' : Heap} (h : h'.get k = some (.arr sz es)) (hd : deepElems es = some ds) (hn : a + n ≤ ds.length) (hq : Q (.agg [.nils, .sl none sz ((ds.drop a).take n)])) : PureAt Q (.agg [.nils, .ms (.g k) sz a n]) h' :=
  pure_ce (u := .agg [.nils, .sl none sz ((ds.drop a).take n)]) (fz1 k sz ds) (fz1_of h hd) (.inl (.inr (.inl ⟨_, _, rfl, rfl, ⟨ce_flat rfl, .frz (by simp [fz1]) hn rfl, trivial⟩⟩))) rfl hq
theorem Made.state0 {P : Program} {f : Nat} {args : List V} {es : List PodD} (h0 : ACall P f args noG (MadeAt fun u sz rs => u = .agg [.nils, .ms (.g 0) 16 0 es.length] ∧ sz = 16 ∧ rs = es.map podR)) (ha : args.all V.free = true) {h : Heap} {K : V → Heap → Prop}
    (hK : K (.agg [.nils, .ms (.g h.next) 16 0 es.length]) (h.push (.arr 16 (es.map podR)))) : ACall P f args h K :=
  h0.made ha fun u sz rs ⟨h1, h2, h3⟩ => by subst h1; subst h2; subst h3; exact hK
section
variable {P : Program} (hG : FnsOk P AF.fns.get)
include hG
theorem nodes_ok0 (s : StD) (hz : s.nodes = []) : Pure P 74 [stV s] (· = .nils) := by
  obtain ⟨ns, ps⟩ := s
  dsimp only at hz
  subst hz
  refine pure_fn (hG _ AF.f74 rfl) rfl ?_
  ((conv => whnf); repeat ((first | refine yf rfl ?_ | refine yt rfl ?_ | refine yo rfl ?_ | refine yc rfl ?_ | refine ys rfl ?_ | refine ye rfl ?_ | refine yn rfl ?_ | refine zw ?_ | refine zdt ?_ | refine zdf ?_ | refine znt ?_ | refine znf ?_ | refine zcd ?_ | refine zci ?_ | refine zc3 ?_ | refine SLoopZ.un rfl ?_) <;> (conv => whnf)))
  exact pure_free rfl rfl
set_option maxHeartbeats 4000000 in
set_option maxRecDepth 10000 in
theorem without_made0 (s : StD) (hz : s.nodes = []) (h6 : s.nodes.length ≤ 1000) (hs : s.ok) (hsm : Small s) (hr : ∀ q ∈ s.pods, PodRoom q) (hne : s.pods ≠ []) :
    ACall P 24 [stV s, .sl none 1 (([] : List Str).map strR)] noG (MadeAt fun u sz rs => u = .agg [.nils, .ms (.g 0) 16 0 s.pods.length] ∧ sz = 16 ∧ rs = s.pods.map podR) := by
  have hlm : (s.pods.map podR).length = s.pods.length := List.length_map _
  have hl := hs.pods
  have hsome := hs.some
  unfold LenOk at hl
  have hn := nodes_ok0 hG s hz
  refine fn_sz (hG _ AF.f24 rfl) rfl ?_
  ((conv => whnf); repeat ((first | refine SCall.app (Pure.go hn rfl) ?_ | refine yf rfl ?_ | refine yt rfl ?_ | refine yo rfl ?_ | refine yc rfl ?_ | refine ys rfl ?_ | refine ye rfl ?_ | refine yn rfl ?_ | refine zw ?_ | refine zdt ?_ | refine zdf ?_ | refine znt ?_ | refine znf ?_ | refine zcd ?_ | refine zci ?_ | refine zc3 ?_) <;> (conv => whnf)))
  refine SLoopZ.by (fun q fr st => ∃ (i : Nat) (b : Bool) (es : List PodD) (n : Nat), i ≤ s.pods.length ∧ q = s.pods.length - i ∧ es = s.pods.take i ∧ (b = false → es = []) ∧ (b = true → i ≠ 0) ∧ n = es.length ∧
      fr = [(14, .i .i64 i), (13, .i .i64 (s.pods.map podR).length), (12, .sl none 16 (s.pods.map podR)), (5, .p (.l 1) 0), (4, .p (.l 0) 0), (1, .sl none 1 [])] ∧
      st = ⟨accG b 16 (es.map podR), ⟨2, [(1, .cs [.nils, accM b 16 n]), (0, .cs [.nils, .nils])]⟩⟩)
    s.pods.length ⟨_, _, ?_, 0, false, [], 0, Nat.zero_le _, rfl, rfl, fun _ => rfl, (fun h => by cases h), rfl, rfl, rfl⟩ ?_
  · exact tG [] [1, 2]
  rintro q fr st ⟨i, b, es, n, hi, rfl, hes, hb, hb1, hn, rfl, rfl⟩ R hR
  have hesl : es.length = i := by
    rw [hes, List.length_take]; omega
  have hem : (es.map podR).length = es.length := List.length_map _
  (conv => whnf)
  refine SIf.ds (fun hlt => ?_) (fun hge => ?_)
  · have hi' : i < s.pods.length := by omega
    have he := List.getElem?_eq_getElem hi'
    have hme := hr _ (List.getElem_mem hi')
    generalize s.pods[i] = e at he hme
    have hc := copyPod_ok hG e hme
    have hct := ct_string hG [] e.name (Nat.zero_le _)
    have h1 : es ++ [e] = s.pods.take (i + 1) := by rw [take_succ' he, ← hes]
    cases b
    · obtain rfl : es = [] := hb rfl
      ((conv => whnf); repeat ((first | refine SCall.app (Pure.go hct rfl) ?_ | refine SCall.app (Pure.go hc rfl) ?_ | refine SEx.of (map_get' (by omega) he) ?_ | refine yf rfl ?_ | refine yt rfl ?_ | refine yo rfl ?_ | refine yc rfl ?_ | refine ys rfl ?_ | refine ye rfl ?_ | refine yn rfl ?_ | refine zw ?_ | refine zdt ?_ | refine zdf ?_ | refine znt ?_ | refine znf ?_ | refine zcd ?_ | refine zci ?_ | refine zc3 ?_) <;> (conv => whnf)))
      refine hR (s.pods.length - (i + 1)) _ _ (by omega) ⟨_, _, ?_, i + 1, true, [] ++ [e], 1, by omega, rfl, h1, (fun h => by cases h), (fun _ => by omega), rfl, rfl, rfl⟩
      exact tG [1] [0, 1]
    · ((conv => whnf); repeat ((first | refine SCall.app (Pure.go hct rfl) ?_ | refine SCall.app (Pure.go hc rfl) ?_ | refine SChk.mk (by simp [roomOk]; omega) ?_ | refine SIf.df (by simp only [List.length_cons, List.length_nil, List.length_map]; omega) ?_ | refine SEx.of (map_get' (by omega) he) ?_ | refine yf rfl ?_ | refine yt rfl ?_ | refine yo rfl ?_ | refine yc rfl ?_ | refine ys rfl ?_ | refine ye rfl ?_ | refine yn rfl ?_ | refine zw ?_ | refine zdt ?_ | refine zdf ?_ | refine znt ?_ | refine znf ?_ | refine zcd ?_ | refine zci ?_ | refine zc3 ?_) <;> (conv => whnf)))
      refine hR (s.pods.length - (i + 1)) _ _ (by omega) ⟨_, _, ?_, i + 1, true, es ++ [e], n + 1, by omega, rfl, h1, (fun h => by cases h), (fun _ => by omega), by simp [hn], rfl, rfl⟩
      exact tG [2] [0, 1]
  · have hall : es = s.pods := by rw [hes, List.take_of_length_le (by omega)]
    cases b
    · exact absurd ((hb rfl).symm.trans hall).symm hne
    · ((conv => whnf); repeat ((first | refine yf rfl ?_ | refine yt rfl ?_ | refine yo rfl ?_ | refine yc rfl ?_ | refine ys rfl ?_ | refine ye rfl ?_ | refine yn rfl ?_ | refine zw ?_ | refine zdt ?_ | refine zdf ?_ | refine znt ?_ | refine znf ?_ | refine zcd ?_ | refine zci ?_ | refine zc3 ?_) <;> (conv => whnf)))
      have hn' : n = s.pods.length := by rw [hn, hall]
      rw [hall, hn']
      refine MadeAt.of (u := .agg [.nils, .ms (.g 0) 16 0 s.pods.length]) (sz := 16) (es := s.pods.map podR) ?_ rfl (fun e he => by obtain ⟨q, _, rfl⟩ := List.mem_map.1 he; rfl) ⟨rfl, rfl, rfl⟩
      exact tG [0] []
set_option maxHeartbeats 4000000 in
set_option maxRecDepth 10000 in
theorem with_nil0 (s : StD) (hz : s.nodes = []) (p : PodD) (h6 : s.nodes.length ≤ 1000) (hsm : Small s) (hp : PodRoom p) (hne : s.pods = []) : Pure P 18 [stV s, .agg (podR p)] (· = .agg [.nils, .sl none 16 ((putD s p).pods.map podR)]) := by
  obtain ⟨ns, ps⟩ := s
  dsimp only at *
  subst hne
  have hn := nodes_ok0 hG ⟨ns, []⟩ hz
  have hc := copyPod_ok hG p hp
  refine pure_fn (hG _ AF.f18 rfl) rfl ?_
  ((conv => whnf); repeat ((first | refine SCall.app (Pure.go hn rfl) ?_ | refine SCall.app (Pure.go hc rfl) ?_ | refine SCall.app (fn_sf (hG _ _ rfl) rfl) ?_ | refine SLoopB.un rfl ?_ | refine yf rfl ?_ | refine yt rfl ?_ | refine yo rfl ?_ | refine yc rfl ?_ | refine ys rfl ?_ | refine ye rfl ?_ | refine yn rfl ?_ | refine zw ?_ | refine zdt ?_ | refine zdf ?_ | refine znt ?_ | refine znf ?_ | refine zcd ?_ | refine zci ?_ | refine zc3 ?_ | refine SLoopZ.un rfl ?_) <;> (conv => whnf)))
  refine pure_aggm0 (es := [podR p]) (a := 0) (n := 1) (ds := [podR p]) rfl rfl (Nat.le_refl _) ?_
  rfl
set_option maxHeartbeats 8000000 in
set_option maxRecDepth 10000 in
theorem with_some0 (s : StD) (hz : s.nodes = []) (p : PodD) (h6 : s.nodes.length ≤ 1000) (hs : s.ok) (hsm : Small s) (hr : ∀ q ∈ s.pods, PodRoom q) (hp : PodRoom p) (hne : s.pods ≠ []) (j : Nat) (hfi : s.pods.findIdx? (fun q => q.name == p.name) = some j) :
    Pure P 18 [stV s, .agg (podR p)] (· = .agg [.nils, .sl none 16 ((putD s p).pods.map podR)]) := by
  have hlm : (s.pods.map podR).length = s.pods.length := List.length_map _
  have hl := hs.pods
  unfold LenOk at hl
  have hw := without_made0 hG s hz h6 hs hsm hr hne
  have hc := copyPod_ok hG p hp
  have hput : putD s p = ⟨s.nodes, s.pods.set j p⟩ := by unfold putD putL; rw [hfi]
  rw [hput]
  have hj : j < s.pods.length := by
    rw [List.findIdx?_eq_some_iff_getElem] at hfi
    exact hfi.1
  have he := List.getElem?_eq_getElem hj
  generalize s.pods[j] = e at he
  refine pure_fn (hG _ AF.f18 rfl) rfl ?_
  ((conv => whnf); repeat ((first | refine SCall.app (Made.state0 (ACall.less (by ((repeat (first | exact trivial | refine ⟨by first | exact ce1_free rfl | exact .inl .nil | exact .inl .tok | exact .inl (.rows (by ((repeat (first | exact .nil | refine .cons (by ((repeat (first | exact .nil | refine .cons (by first | exact .refl _ | exact .nil _) ?_)); first | done | fail)) ?_)); first | done | fail))) | exact .inr (.inl ⟨_, _, rfl, rfl, (by ((repeat (first | exact trivial | refine ⟨by first | exact ce_flat rfl | exact .nil | exact .tok | exact .ren rfl (Nat.le_of_ble_eq_true rfl) | exact .rows (by ((repeat (first | exact .nil | refine .cons (by ((repeat (first | exact .nil | refine .cons (by first | exact .refl _ | exact .nil _) ?_)); first | done | fail)) ?_)); first | done | fail)), ?_⟩)); first | done | fail))⟩), ?_⟩)); first | done | fail)) hw) rfl) ?_ | refine SCall.app (Pure.go hc rfl) ?_ | refine SCall.app (ixm_pod (hG _ AF.f62 rfl) hl rfl (fun e he K hK => sameName_ok hG rfl hK) j (ixRes_some hfi)) ?_ | refine SEx.of (map_get' (by omega) he) ?_ | refine yf rfl ?_ | refine yt rfl ?_ | refine yo rfl ?_ | refine yc rfl ?_ | refine ys rfl ?_ | refine ye rfl ?_ | refine yn rfl ?_ | refine zw ?_ | refine zdt ?_ | refine zdf ?_ | refine znt ?_ | refine znf ?_ | refine zcd ?_ | refine zci ?_ | refine zc3 ?_) <;> (conv => whnf)))
  refine pure_aggm0 (ds := (s.pods.set j p).map podR) rfl ?_ (by simp) ?_
  · show deepElems ((s.pods.map podR).set (0 + j) (podR p)) = _
    rw [Nat.zero_add, set_map rfl]
    exact deep_map (fun _ => rfl) _
  · rw [List.drop_zero, List.take_of_length_le (by simp)]
set_option maxHeartbeats 8000000 in
set_option maxRecDepth 10000 in
theorem with_none0 (hI : InsOk P 64) (s : StD) (hz : s.nodes = []) (p : PodD) (h6 : s.nodes.length ≤ 1000) (hs : s.ok) (hsm : Small s) (hr : ∀ q ∈ s.pods, PodRoom q) (hp : PodRoom p) (hne : s.pods ≠ []) (hroom : s.pods.length * 248 + 1000 ≤ 140737488355328) (hfi : s.pods.findIdx? (fun q => q.name == p.name) = none) :
    Pure P 18 [stV s, .agg (podR p)] (· = .agg [.nils, .sl none 16 ((putD s p).pods.map podR)]) := by
  have hlm : (s.pods.map podR).length = s.pods.length := List.length_map _
  have hl := hs.pods
  unfold LenOk at hl
  have hw := without_made0 hG s hz h6 hs hsm hr hne
  have hc := copyPod_ok hG p hp
  have hput : ∀ i, (s.pods.takeWhile fun q => Op.bytesLess q.name p.name).length = i → putD s p = ⟨s.nodes, s.pods.take i ++ [p] ++ s.pods.drop i⟩ := fun i hi => by unfold putD putL; rw [hfi, ← hi]
  refine pure_fn (hG _ AF.f18 rfl) rfl ?_
  ((conv => whnf); repeat ((first | refine SCall.app (Made.state0 (ACall.less (by ((repeat (first | exact trivial | refine ⟨by first | exact ce1_free rfl | exact .inl .nil | exact .inl .tok | exact .inl (.rows (by ((repeat (first | exact .nil | refine .cons (by ((repeat (first | exact .nil | refine .cons (by first | exact .refl _ | exact .nil _) ?_)); first | done | fail)) ?_)); first | done | fail))) | exact .inr (.inl ⟨_, _, rfl, rfl, (by ((repeat (first | exact trivial | refine ⟨by first | exact ce_flat rfl | exact .nil | exact .tok | exact .ren rfl (Nat.le_of_ble_eq_true rfl) | exact .rows (by ((repeat (first | exact .nil | refine .cons (by ((repeat (first | exact .nil | refine .cons (by first | exact .refl _ | exact .nil _) ?_)); first | done | fail)) ?_)); first | done | fail)), ?_⟩)); first | done | fail))⟩), ?_⟩)); first | done | fail)) hw) rfl) ?_ | refine SCall.app (Pure.go hc rfl) ?_ | refine SCall.app (ixm_pod (hG _ AF.f62 rfl) hl rfl (fun e he K hK => sameName_ok hG rfl hK) (-1) (ixRes_none hfi)) ?_ | refine yf rfl ?_ | refine yt rfl ?_ | refine yo rfl ?_ | refine yc rfl ?_ | refine ys rfl ?_ | refine ye rfl ?_ | refine yn rfl ?_ | refine zw ?_ | refine zdt ?_ | refine zdf ?_ | refine znt ?_ | refine znf ?_ | refine zcd ?_ | refine zci ?_ | refine zc3 ?_) <;> (conv => whnf)))
  refine SLoopZ.by (fun q fr st => ∃ i : Nat, i ≤ s.pods.length ∧ q = s.pods.length - i ∧ (∀ (j : Nat) (x : PodD), j < i → s.pods[j]? = some x → Op.bytesLess x.name p.name = true) ∧
      fr = [(7, .i .i64 i), (5, .p (.l 1) 0), (4, .p (.l 0) 0), (3, .p (.g 0) 0)] ∧
      st = ⟨⟨2, [(1, .arr 16 (s.pods.map podR)), (0, .cs (podR p))]⟩, ⟨2, [(1, .cs [.nils, .ms (.g 1) 16 0 s.pods.length]), (0, .cs [.nils, .nils])]⟩⟩)
    s.pods.length ⟨_, _, ?_, 0, Nat.zero_le _, rfl, (fun j x h => absurd h (Nat.not_lt_zero _)), rfl, rfl⟩ ?_
  · exact tG [0, 1] [1, 2]
  rintro q fr st ⟨i, hi, rfl, hb, rfl, rfl⟩ R hR
  ((conv => whnf); repeat ((first | refine yf rfl ?_ | refine yt rfl ?_ | refine yo rfl ?_ | refine yc rfl ?_ | refine ys rfl ?_ | refine ye rfl ?_ | refine yn rfl ?_ | refine zw ?_ | refine zdt ?_ | refine zdf ?_ | refine znt ?_ | refine znf ?_ | refine zcd ?_ | refine zci ?_ | refine zc3 ?_) <;> (conv => whnf)))
  refine SIf.ds (fun hlt => ?_) (fun hge => ?_)
  · have hi' : i < s.pods.length := by omega
    have he := List.getElem?_eq_getElem hi'
    generalize s.pods[i] = e at he
    cases hlss : Op.bytesLess e.name p.name
    · ((conv => whnf); repeat ((first | refine SIf.ff hlss ?_ | refine SEx.of (map_get' (by omega) he) ?_ | refine yf rfl ?_ | refine yt rfl ?_ | refine yo rfl ?_ | refine yc rfl ?_ | refine ys rfl ?_ | refine ye rfl ?_ | refine yn rfl ?_ | refine zw ?_ | refine zdt ?_ | refine zdf ?_ | refine znt ?_ | refine znf ?_ | refine zcd ?_ | refine zci ?_ | refine zc3 ?_) <;> (conv => whnf)))
      refine SCall.app (hI s.pods i p 1 2 _ _ hi' hroom rfl rfl (by decide)) ?_
      ((conv => whnf); repeat ((first | refine yf rfl ?_ | refine yt rfl ?_ | refine yo rfl ?_ | refine yc rfl ?_ | refine ys rfl ?_ | refine ye rfl ?_ | refine yn rfl ?_ | refine zw ?_ | refine zdt ?_ | refine zdf ?_ | refine znt ?_ | refine znf ?_ | refine zcd ?_ | refine zci ?_ | refine zc3 ?_) <;> (conv => whnf)))
      refine pure_aggm0 (ds := (s.pods.take i ++ [p] ++ s.pods.drop i).map podR) rfl (deep_map (fun _ => rfl) _) (by simp; omega) ?_
      rw [hput i (takeWhile_at hi hb (fun x hx => by rw [he] at hx; cases hx; exact hlss)), List.drop_zero, List.take_of_length_le (by simp; omega)]
    · ((conv => whnf); repeat ((first | refine SIf.tt hlss ?_ | refine SEx.of (map_get' (by omega) he) ?_ | refine yf rfl ?_ | refine yt rfl ?_ | refine yo rfl ?_ | refine yc rfl ?_ | refine ys rfl ?_ | refine ye rfl ?_ | refine yn rfl ?_ | refine zw ?_ | refine zdt ?_ | refine zdf ?_ | refine znt ?_ | refine znf ?_ | refine zcd ?_ | refine zci ?_ | refine zc3 ?_) <;> (conv => whnf)))
      refine hR (s.pods.length - (i + 1)) _ _ (by omega) ⟨_, _, ?_, i + 1, by omega, rfl, (fun j x hj hx => ?_), rfl, rfl⟩
      · exact tG [0, 1] [0, 1]
      · by_cases hji : j < i
        · exact hb j x hji hx
        · obtain rfl : j = i := by omega
          rw [he] at hx; cases hx; exact hlss
  · obtain rfl : i = s.pods.length := by omega
    ((conv => whnf); repeat ((first | refine SCall.app (fn_sf (hG _ _ rfl) rfl) ?_ | refine SChk.mk (by simp [roomOk]; omega) ?_ | refine SIf.df (by simp only [List.length_cons, List.length_nil, List.length_map]; omega) ?_ | refine yf rfl ?_ | refine yt rfl ?_ | refine yo rfl ?_ | refine yc rfl ?_ | refine ys rfl ?_ | refine ye rfl ?_ | refine yn rfl ?_ | refine zw ?_ | refine zdt ?_ | refine zdf ?_ | refine znt ?_ | refine znf ?_ | refine zcd ?_ | refine zci ?_ | refine zc3 ?_) <;> (conv => whnf)))
    refine pure_aggm0 (ds := (s.pods ++ [p]).map podR) rfl ((congrArg deepElems (acc_step rfl)).trans (deep_map (fun _ => rfl) _)) (by simp) ?_
    rw [hput _ (takeWhile_at hi hb (fun x hx => by simp at hx)), List.drop_zero, List.take_of_length_le (by simp), List.take_of_length_le (Nat.le_refl _), List.drop_of_length_le (Nat.le_refl _), List.append_nil]
/-- (WITH) -/
theorem with_ok0 (hI : InsOk P 64) (s : StD) (hz : s.nodes = []) (p : PodD) (h6 : s.nodes.length ≤ 1000) (hs : s.ok) (hsm : Small s) (hr : ∀ q ∈ s.pods, PodRoom q) (hp : PodRoom p) (hroom : s.pods.length * 248 + 1000 ≤ 140737488355328) :
    Pure P 18 [stV s, .agg (podR p)] (· = .agg [.nils, .sl none 16 ((putD s p).pods.map podR)]) := by
  by_cases hne : s.pods = []
  · exact with_nil0 hG s hz p h6 hsm hp hne
  · cases hfi : s.pods.findIdx? (fun q => q.name == p.name) with
    | none => exact with_none0 hG hI s hz p h6 hs hsm hr hp hne hroom hfi
    | some j => exact with_some0 hG s hz p h6 hs hsm hr hp hne j hfi
end
end Go.Eng
