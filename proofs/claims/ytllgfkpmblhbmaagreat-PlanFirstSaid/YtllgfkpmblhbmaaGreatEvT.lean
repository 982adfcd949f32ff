/-
Where the fewest go: what it costs, and the least of it.
-/
import Derived.Test.YtllgfkpmblhbmaaGreatEvV
import Derived.Test.YtllgfkpmblhbmaaGreatWiG
import Derived.Test.YtllgfkpmblhbmaaGreatEvM
import Derived.Test.YtllgfkpmblhbmaaGreatLaw0
import Derived.Test.YtllgfkpmblhbmaaGreatFitW
set_option linter.unusedVariables false
set_option linter.unusedSimpArgs false
namespace Go.Eng
open Go
/-- What victims cost: the greatest priority, how many, the sum (as the machine adds). -/
def costGo (s : StD) : List Str → Int → Int → Int × Int
  | [], m, u => (m, u)
  | n :: r, m, u => costGo s r (maxI m ((s.pods.find? fun q => q.name == n).getD podZ).prio) (IntKind.i64.wrap (u + ((s.pods.find? fun q => q.name == n).getD podZ).prio))
def costD (s : StD) (l : List Str) : Int × Int × Int := ((costGo s l (-1) 0).1, l.length, (costGo s l (-1) 0).2)
def costV (c : Int × Int × Int) : V := .agg [.i .i64 c.1, .i .i64 c.2.1, .i .i64 c.2.2]
def lessC (a b : Int × Int × Int) : Bool :=
  decide ((if cmpI a.1 b.1 = 0 then if cmpI a.2.1 b.2.1 = 0 then cmpI a.2.2 b.2.2 else cmpI a.2.1 b.2.1 else cmpI a.1 b.1) < 0)
abbrev BestV := Option (Str × List Str × (Int × Int × Int))
def bestStep (s : StD) (p : PodD) (b : BestV) (n : NodeD) : BestV :=
  match victD s p n.name with
  | none => b
  | some l => match b with
    | none => some (n.name, l, costD s l)
    | some d => if lessC (costD s l) d.2.2 then some (n.name, l, costD s l) else some d
def evictD (s : StD) (p : PodD) : BestV := s.nodes.foldl (bestStep s p) none
section
variable {P : Program} (hG : FnsOk P AF.fns.get)
include hG
theorem clone_node (l : List NodeD) (hl : l.length ≤ 1000) : Pure P 54 [.sl none 6 (l.map nodeR)] (· = .sl none 6 (l.map nodeR)) := by
  refine pure_fn (hG _ AF.f54 rfl) rfl ?_
  cases l with
  | nil =>
    ((conv => whnf); repeat ((first | refine yf rfl ?_ | refine yt rfl ?_ | refine yo rfl ?_ | refine yc rfl ?_ | refine ys rfl ?_ | refine ye rfl ?_ | refine yn rfl ?_ | refine zw ?_ | refine zdt ?_ | refine zdf ?_ | refine znt ?_ | refine znf ?_ | refine zcd ?_ | refine zci ?_ | refine zc3 ?_) <;> (conv => whnf)))
    refine SAny.mk fun b => ?_
    cases b
    · ((conv => whnf); repeat ((first | refine yf rfl ?_ | refine yt rfl ?_ | refine yo rfl ?_ | refine yc rfl ?_ | refine ys rfl ?_ | refine ye rfl ?_ | refine yn rfl ?_ | refine zw ?_ | refine zdt ?_ | refine zdf ?_ | refine znt ?_ | refine znf ?_ | refine zcd ?_ | refine zci ?_ | refine zc3 ?_) <;> (conv => whnf)))
      exact pure_ms (ds := []) rfl rfl (Nat.le_refl _) rfl
    · ((conv => whnf); repeat ((first | refine yf rfl ?_ | refine yt rfl ?_ | refine yo rfl ?_ | refine yc rfl ?_ | refine ys rfl ?_ | refine ye rfl ?_ | refine yn rfl ?_ | refine zw ?_ | refine zdt ?_ | refine zdf ?_ | refine znt ?_ | refine znf ?_ | refine zcd ?_ | refine zci ?_ | refine zc3 ?_) <;> (conv => whnf)))
      exact pure_nil rfl
  | cons x r =>
    have hr : roomOk (0 + ((x :: r).map nodeR).length) 88 = true := by
      rw [List.length_map, Nat.zero_add]
      unfold roomOk
      exact decide_eq_true (by omega)
    ((conv => whnf); repeat ((first | refine SEx.of (own_map (fun _ => rfl) (x :: r)) ?_ | refine SChk.mk hr ?_ | refine yf rfl ?_ | refine yt rfl ?_ | refine yo rfl ?_ | refine yc rfl ?_ | refine ys rfl ?_ | refine ye rfl ?_ | refine yn rfl ?_ | refine zw ?_ | refine zdt ?_ | refine zdf ?_ | refine znt ?_ | refine znf ?_ | refine zcd ?_ | refine zci ?_ | refine zc3 ?_) <;> (conv => whnf)))
    refine pure_ms rfl (deep_map (fun _ => rfl) (x :: r)) (by simp) ?_
    simp [List.take_of_length_le]
theorem cmpN_ok (hcmp : CmpOk P) (a b : NodeD) : Pure P 56 [.agg (nodeR a), .agg (nodeR b)] (· = .i .i64 (cmpB a.name b.name)) := by
  have h2 := compare_ok hG hcmp a.name b.name
  generalize cmpB a.name b.name = v at h2
  refine pure_fn (hG _ AF.f56 rfl) rfl ?_
  ((conv => whnf); repeat ((first | refine SCall.app (Pure.go h2 rfl) ?_ | refine yf rfl ?_ | refine yt rfl ?_ | refine yo rfl ?_ | refine yc rfl ?_ | refine ys rfl ?_ | refine ye rfl ?_ | refine yn rfl ?_ | refine zw ?_ | refine zdt ?_ | refine zdf ?_ | refine znt ?_ | refine znf ?_ | refine zcd ?_ | refine zci ?_ | refine zc3 ?_) <;> (conv => whnf)))
  exact pure_free rfl rfl
set_option maxHeartbeats 4000000 in
theorem isortn_ok (hcmp : CmpOk P) (es : List NodeD) (hl : es.length ≤ 19) (hs : es.Pairwise fun a b => lessS a.name b.name) :
    Pure P 182 [.sl none 6 (es.map nodeR), .i .i64 0, .i .i64 es.length, .fn 56 [] []] (· = .tup []) := by
  have hlm : (es.map nodeR).length = es.length := List.length_map _
  refine pure_fn (hG _ AF.f182 rfl) rfl ?_
  ((conv => whnf); repeat ((first | refine yf rfl ?_ | refine yt rfl ?_ | refine yo rfl ?_ | refine yc rfl ?_ | refine ys rfl ?_ | refine ye rfl ?_ | refine yn rfl ?_ | refine zw ?_ | refine zdt ?_ | refine zdf ?_ | refine znt ?_ | refine znf ?_ | refine zcd ?_ | refine zci ?_ | refine zc3 ?_) <;> (conv => whnf)))
  refine SLoopZ.by (fun q fr st => ∃ i : Nat, 1 ≤ i ∧ i ≤ es.length + 1 ∧ q = es.length + 1 - i ∧
      fr = [(8, .i .i64 i), (3, .fn 56 [] []), (2, .i .i64 es.length), (1, .i .i64 0), (0, .sl none 6 (es.map nodeR))] ∧ st = gst noG)
    es.length ⟨_, _, ?_, 1, by omega, by omega, by omega, rfl, rfl⟩ ?_
  · exact tL0
  rintro q fr st ⟨i, hi1, hi, rfl, rfl, rfl⟩ R hR
  (conv => whnf)
  refine SIf.ds (fun hlt => ?_) (fun hge => ?_)
  · have hi' : i < es.length := by omega
    have hj' : i - 1 < es.length := by omega
    have he := List.getElem?_eq_getElem hi'
    have hf := List.getElem?_eq_getElem hj'
    generalize es[i] = e at he
    generalize es[i - 1] = f at hf
    have hfe := cmpB_of_less (pair_get hs (by omega : i - 1 < i) hf he)
    have hc := cmpN_ok hG hcmp e f
    generalize cmpB e.name f.name = c at hfe hc
    ((conv => whnf); repeat ((first | refine SCall.app (Pure.go hc rfl) ?_ | refine SEx.of (map_get' (by omega) he) ?_ | refine SEx.of (map_get' (by omega) hf) ?_ | refine yf rfl ?_ | refine yt rfl ?_ | refine yo rfl ?_ | refine yc rfl ?_ | refine ys rfl ?_ | refine ye rfl ?_ | refine yn rfl ?_ | refine zw ?_ | refine zdt ?_ | refine zdf ?_ | refine znt ?_ | refine znf ?_ | refine zcd ?_ | refine zci ?_ | refine zc3 ?_ | refine SLoopZ.un rfl ?_) <;> (conv => whnf)))
    refine hR (es.length + 1 - (i + 1)) _ _ (by omega) ⟨_, _, ?_, i + 1, by omega, by omega, rfl, rfl, rfl⟩
    exact tL0
  · ((conv => whnf); repeat ((first | refine yf rfl ?_ | refine yt rfl ?_ | refine yo rfl ?_ | refine yc rfl ?_ | refine ys rfl ?_ | refine ye rfl ?_ | refine yn rfl ?_ | refine zw ?_ | refine zdt ?_ | refine zdf ?_ | refine znt ?_ | refine znf ?_ | refine zcd ?_ | refine zci ?_ | refine zc3 ?_) <;> (conv => whnf)))
    exact pure_free rfl rfl
theorem stablecn_ok (hcmp : CmpOk P) (es : List NodeD) (hl : es.length ≤ 19) (hs : es.Pairwise fun a b => lessS a.name b.name) :
    Pure P 106 [.sl none 6 (es.map nodeR), .i .i64 es.length, .fn 56 [] []] (· = .tup []) := by
  have h := isortn_ok hG hcmp es hl hs
  refine pure_fn (hG _ AF.f106 rfl) rfl ?_
  ((conv => whnf); repeat ((first | refine SCall.app (Pure.go h rfl) ?_ | refine yf rfl ?_ | refine yt rfl ?_ | refine yo rfl ?_ | refine yc rfl ?_ | refine ys rfl ?_ | refine ye rfl ?_ | refine yn rfl ?_ | refine zw ?_ | refine zdt ?_ | refine zdf ?_ | refine znt ?_ | refine znf ?_ | refine zcd ?_ | refine zci ?_ | refine zc3 ?_ | refine SLoopZ.un rfl ?_) <;> (conv => whnf)))
  exact pure_free rfl rfl
theorem stablen_ok (hcmp : CmpOk P) (es : List NodeD) (hl : es.length ≤ 19) (hs : es.Pairwise fun a b => lessS a.name b.name) :
    Pure P 55 [.sl none 6 (es.map nodeR), .fn 56 [] []] (· = .tup []) := by
  have h := stablecn_ok hG hcmp es hl hs
  have hlm : (es.map nodeR).length = es.length := List.length_map _
  refine pure_fn (hG _ AF.f55 rfl) rfl ?_
  ((conv => whnf); repeat ((first | refine yf rfl ?_ | refine yt rfl ?_ | refine yo rfl ?_ | refine yc rfl ?_ | refine ys rfl ?_ | refine ye rfl ?_ | refine yn rfl ?_ | refine zw ?_ | refine zdt ?_ | refine zdf ?_ | refine znt ?_ | refine znf ?_ | refine zcd ?_ | refine zci ?_ | refine zc3 ?_) <;> (conv => whnf)))
  rw [hlm]
  ((conv => whnf); repeat ((first | refine SCall.app (Pure.go h rfl) ?_ | refine yf rfl ?_ | refine yt rfl ?_ | refine yo rfl ?_ | refine yc rfl ?_ | refine ys rfl ?_ | refine ye rfl ?_ | refine yn rfl ?_ | refine zw ?_ | refine zdt ?_ | refine zdf ?_ | refine znt ?_ | refine znf ?_ | refine zcd ?_ | refine zci ?_ | refine zc3 ?_) <;> (conv => whnf)))
  exact pure_free rfl rfl
theorem lessC_ok (a b : Int × Int × Int) : Pure P 58 [costV a, costV b] (· = .b (lessC a b)) := by
  obtain ⟨a1, a2, a3⟩ := a
  obtain ⟨b1, b2, b3⟩ := b
  have h1 := cmpInt_ok hG a1 b1
  have h2 := cmpInt_ok hG a2 b2
  have h3 := cmpInt_ok hG a3 b3
  unfold lessC
  dsimp only
  generalize cmpI a1 b1 = x at h1
  generalize cmpI a2 b2 = y at h2
  generalize cmpI a3 b3 = z at h3
  refine pure_fn (hG _ AF.f58 rfl) rfl ?_
  by_cases hx : x = 0 <;> by_cases hy : y = 0 <;> by_cases hz : z = 0
  all_goals (try subst hx)
  all_goals (try subst hy)
  all_goals (try subst hz)
  all_goals ((conv => whnf); repeat ((first | refine SCall.app (Pure.go h1 rfl) ?_ | refine SCall.app (Pure.go h2 rfl) ?_ | refine SCall.app (Pure.go h3 rfl) ?_ | refine SCall.app (fn_sf (hG _ _ rfl) rfl) ?_ | refine SLoopB.un rfl ?_ | refine yf rfl ?_ | refine yt rfl ?_ | refine yo rfl ?_ | refine yc rfl ?_ | refine ys rfl ?_ | refine ye rfl ?_ | refine yn rfl ?_ | refine zw ?_ | refine zdt ?_ | refine zdf ?_ | refine znt ?_ | refine znf ?_ | refine zcd ?_ | refine zci ?_ | refine zc3 ?_ | refine SLoopZ.un rfl ?_) <;> (conv => whnf)))
  all_goals (refine pure_free rfl ?_)
  all_goals first | rfl | (simp [*]; done)
set_option maxHeartbeats 4000000 in
theorem costs_ok (s : StD) (l : List Str) (hs : s.ok) (hr : ∀ q ∈ s.pods, PodRoom q) (hl : l.length ≤ 1000) : Pure P 57 [stV s, .sl none 1 (l.map strR)] (· = costV (costD s l)) := by
  have hlm : (l.map strR).length = l.length := List.length_map _
  refine pure_fn (hG _ AF.f57 rfl) rfl ?_
  ((conv => whnf); repeat ((first | refine yf rfl ?_ | refine yt rfl ?_ | refine yo rfl ?_ | refine yc rfl ?_ | refine ys rfl ?_ | refine ye rfl ?_ | refine yn rfl ?_ | refine zw ?_ | refine zdt ?_ | refine zdf ?_ | refine znt ?_ | refine znf ?_ | refine zcd ?_ | refine zci ?_ | refine zc3 ?_) <;> (conv => whnf)))
  refine SLoopZ.by (fun q fr st => ∃ (i : Nat) (m u : Int), i ≤ l.length ∧ q = l.length - i ∧ costGo s l (-1) 0 = costGo s (l.drop i) m u ∧
      fr = [(15, .i .i64 i), (14, .i .i64 (l.map strR).length), (13, .sl none 1 (l.map strR)), (5, .p (.l 2) 0), (4, .p (.l 1) 0), (2, .p (.l 0) 0)] ∧
      st = ⟨noG, ⟨3, [(2, .cs [.i .i64 m, .i .i64 (l.map strR).length, .i .i64 u]), (1, .cs [.i .i64 0, .i .i64 0, .i .i64 0]), (0, .cs [.sl none 6 (s.nodes.map nodeR), .sl none 16 (s.pods.map podR)])]⟩⟩)
    l.length ⟨_, _, ?_, 0, -1, 0, Nat.zero_le _, rfl, rfl, rfl, rfl⟩ ?_
  · exact tL [0, 1, 2]
  rintro q fr st ⟨i, m, u, hi, rfl, hc, rfl, rfl⟩ R hR
  (conv => whnf)
  refine SIf.ds (fun hlt => ?_) (fun hge => ?_)
  · have hi' : i < l.length := by omega
    have he := List.getElem?_eq_getElem hi'
    have hdr : l.drop i = l[i] :: l.drop (i + 1) := List.drop_eq_getElem_cons hi'
    rw [hdr, costGo] at hc
    generalize l[i] = e at he hc
    have hg := statePod_ok hG s e hs.pods hr
    obtain ⟨z, hz⟩ : ∃ z, z = (s.pods.find? fun q => q.name == e).getD podZ := ⟨_, rfl⟩
    have hpo : ∃ b : Bool, podO (s.pods.find? fun q => q.name == e) = .tup [.agg (podR z), .b b] := by
      rw [hz]
      cases s.pods.find? fun q => q.name == e with
      | none => exact ⟨_, rfl⟩
      | some q => exact ⟨_, rfl⟩
    obtain ⟨b, hb⟩ := hpo
    rw [hb] at hg
    rw [← hz] at hc
    ((conv => whnf); repeat ((first | refine SCall.app (Pure.go hg rfl) ?_ | refine SOpt.of (mx2 (z := maxI m z.prio) rfl) ?_ | refine SWrap.w64 (by omega) (by omega) ?_ | refine SWrap.mk ?_ | refine SEx.of (map_get' (by omega) he) ?_ | refine yf rfl ?_ | refine yt rfl ?_ | refine yo rfl ?_ | refine yc rfl ?_ | refine ys rfl ?_ | refine ye rfl ?_ | refine yn rfl ?_ | refine zw ?_ | refine zdt ?_ | refine zdf ?_ | refine znt ?_ | refine znf ?_ | refine zcd ?_ | refine zci ?_ | refine zc3 ?_) <;> (conv => whnf)))
    refine hR (l.length - (i + 1)) _ _ (by omega) ⟨_, _, ?_, i + 1, maxI m z.prio, _, by omega, rfl, hc, rfl, rfl⟩
    exact tL [0, 1, 2]
  · have hd0 : l.drop i = [] := List.drop_of_length_le (by omega)
    rw [hd0, costGo] at hc
    ((conv => whnf); repeat ((first | refine yf rfl ?_ | refine yt rfl ?_ | refine yo rfl ?_ | refine yc rfl ?_ | refine ys rfl ?_ | refine ye rfl ?_ | refine yn rfl ?_ | refine zw ?_ | refine zdt ?_ | refine zdf ?_ | refine znt ?_ | refine znf ?_ | refine zcd ?_ | refine zci ?_ | refine zc3 ?_) <;> (conv => whnf)))
    refine pure_free rfl ?_
    unfold costV costD
    rw [hc, hlm]
end
end Go.Eng
/-
Where the fewest go.
-/
namespace Go.Eng
open Go
def costC (b : BestV) : List V :=
  match b with
  | none => [.i .i64 0, .i .i64 0, .i .i64 0]
  | some d => [.i .i64 d.2.2.1, .i .i64 d.2.2.2.1, .i .i64 d.2.2.2.2]
def doC (pod : Str) (b : BestV) : List V :=
  match b with
  | none => [.s [], .s [], .sl none 1 []]
  | some d => [.s pod, .s d.1, .sl none 1 (d.2.1.map strR)]
section
variable {P : Program} (hG : FnsOk P AF.fns.get)
include hG
set_option maxHeartbeats 16000000 in
set_option maxRecDepth 20000 in
theorem evbest_ok (hcmp : CmpOk P) (hS : SortOk P 49 45)
    (s : StD) (p : PodD) (hs : s.ok) (hp : p.fit) (hsm : Small s) (h6 : s.nodes.length ≤ 6) (h19 : s.pods.length ≤ 19) (hr : ∀ q ∈ s.pods, PodRoom q) (hso : s.nodes.Pairwise fun a b => lessS a.name b.name) :
    Pure P 12 [stV s, .agg (podR p)] (· = .tup [.agg (doC p.name (evictD s p)), .b (evictD s p).isSome]) := by
  have hlm : (s.nodes.map nodeR).length = s.nodes.length := List.length_map _
  have hc := clone_node hG s.nodes (by omega)
  have hst := stablen_ok hG hcmp s.nodes (by omega) hso
  refine pure_fn (hG _ AF.f12 rfl) rfl ?_
  ((conv => whnf); repeat ((first | refine SCall.app (Pure.go hc rfl) ?_ | refine SCall.app (Pure.go hst rfl) ?_ | refine yf rfl ?_ | refine yt rfl ?_ | refine yo rfl ?_ | refine yc rfl ?_ | refine ys rfl ?_ | refine ye rfl ?_ | refine yn rfl ?_ | refine zw ?_ | refine zdt ?_ | refine zdf ?_ | refine znt ?_ | refine znf ?_ | refine zcd ?_ | refine zci ?_ | refine zc3 ?_) <;> (conv => whnf)))
  refine SLoopZ.by (fun q fr st => ∃ (i : Nat) (b : BestV), i ≤ s.nodes.length ∧ q = s.nodes.length - i ∧ evictD s p = (s.nodes.drop i).foldl (bestStep s p) b ∧
      fr = [(22, .i .i64 i), (21, .i .i64 (s.nodes.map nodeR).length), (20, .sl none 6 (s.nodes.map nodeR)), (8, .b b.isSome), (7, .p (.l 4) 0), (6, .p (.l 3) 0), (4, .p (.l 2) 0), (3, .p (.l 1) 0), (2, .p (.l 0) 0)] ∧
      st = ⟨noG, ⟨5, [(4, .cs (costC b)), (3, .cs (doC p.name b)), (2, .cs [.s [], .s [], .sl none 1 []]), (1, .cs (podR p)), (0, .cs [.sl none 6 (s.nodes.map nodeR), .sl none 16 (s.pods.map podR)])]⟩⟩)
    s.nodes.length ⟨_, _, ?_, 0, none, Nat.zero_le _, rfl, rfl, rfl, rfl⟩ ?_
  · exact tL [0, 1, 2, 3, 4]
  rintro q fr st ⟨i, b, hi, rfl, hb, rfl, rfl⟩ R hR
  generalize evictD s p = E at hb hR ⊢
  (conv => whnf)
  refine SIf.ds (fun hlt => ?_) (fun hge => ?_)
  · have hi' : i < s.nodes.length := by omega
    have he := List.getElem?_eq_getElem hi'
    have hdr : s.nodes.drop i = s.nodes[i] :: s.nodes.drop (i + 1) := List.drop_eq_getElem_cons hi'
    rw [hdr, List.foldl_cons] at hb
    generalize s.nodes[i] = e at he hb
    have hv := vict_ok hG hcmp hS s p e.name hs hp hsm (by omega) h19 hr
    cases hvd : victD s p e.name with
    | none =>
      rw [hvd] at hv
      have h1 : bestStep s p b e = b := by unfold bestStep; rw [hvd]
      rw [h1] at hb
      cases b
      all_goals ((conv => whnf); repeat ((first | refine SCall.app (Pure.go hv rfl) ?_ | refine SEx.of (map_get' (by omega) he) ?_ | refine yf rfl ?_ | refine yt rfl ?_ | refine yo rfl ?_ | refine yc rfl ?_ | refine ys rfl ?_ | refine ye rfl ?_ | refine yn rfl ?_ | refine zw ?_ | refine zdt ?_ | refine zdf ?_ | refine znt ?_ | refine znf ?_ | refine zcd ?_ | refine zci ?_ | refine zc3 ?_) <;> (conv => whnf)))
      all_goals refine hR (s.nodes.length - (i + 1)) _ _ (by omega) ⟨_, _, ?_, i + 1, _, by omega, rfl, hb, rfl, rfl⟩
      all_goals exact tL [0, 1, 2, 3, 4]
    | some l =>
      rw [hvd] at hv
      have hll := vict_len hvd
      have hco := costs_ok hG s l hs hr (by omega)
      obtain ⟨cc, hcc⟩ : ∃ cc, cc = costD s l := ⟨_, rfl⟩
      rw [← hcc] at hco
      cases b with
      | none =>
        have h1 : bestStep s p none e = some (e.name, l, cc) := by unfold bestStep; rw [hvd, hcc]
        rw [h1] at hb
        ((conv => whnf); repeat ((first | refine SCall.app (Pure.go hv rfl) ?_ | refine SCall.app (Pure.go hco rfl) ?_ | refine SEx.of (map_get' (by omega) he) ?_ | refine yf rfl ?_ | refine yt rfl ?_ | refine yo rfl ?_ | refine yc rfl ?_ | refine ys rfl ?_ | refine ye rfl ?_ | refine yn rfl ?_ | refine zw ?_ | refine zdt ?_ | refine zdf ?_ | refine znt ?_ | refine znf ?_ | refine zcd ?_ | refine zci ?_ | refine zc3 ?_) <;> (conv => whnf)))
        refine hR (s.nodes.length - (i + 1)) _ _ (by omega) ⟨_, _, ?_, i + 1, some (e.name, l, cc), by omega, rfl, hb, rfl, rfl⟩
        exact tL [0, 1, 2, 3, 4]
      | some d =>
        obtain ⟨d1, d2, dc⟩ := d
        have hle := lessC_ok hG cc dc
        cases hlc : lessC cc dc with
        | true =>
          have h1 : bestStep s p (some (d1, d2, dc)) e = some (e.name, l, cc) := by unfold bestStep; rw [hvd]; dsimp only; rw [← hcc, if_pos hlc]
          rw [h1] at hb
          rw [hlc] at hle
          ((conv => whnf); repeat ((first | refine SCall.app (Pure.go hv rfl) ?_ | refine SCall.app (Pure.go hco rfl) ?_ | refine SCall.app (Pure.go hle rfl) ?_ | refine SEx.of (map_get' (by omega) he) ?_ | refine yf rfl ?_ | refine yt rfl ?_ | refine yo rfl ?_ | refine yc rfl ?_ | refine ys rfl ?_ | refine ye rfl ?_ | refine yn rfl ?_ | refine zw ?_ | refine zdt ?_ | refine zdf ?_ | refine znt ?_ | refine znf ?_ | refine zcd ?_ | refine zci ?_ | refine zc3 ?_) <;> (conv => whnf)))
          refine hR (s.nodes.length - (i + 1)) _ _ (by omega) ⟨_, _, ?_, i + 1, some (e.name, l, cc), by omega, rfl, hb, rfl, rfl⟩
          exact tL [0, 1, 2, 3, 4]
        | false =>
          have h1 : bestStep s p (some (d1, d2, dc)) e = some (d1, d2, dc) := by unfold bestStep; rw [hvd]; dsimp only; rw [← hcc, if_neg (by rw [hlc]; decide)]
          rw [h1] at hb
          rw [hlc] at hle
          ((conv => whnf); repeat ((first | refine SCall.app (Pure.go hv rfl) ?_ | refine SCall.app (Pure.go hco rfl) ?_ | refine SCall.app (Pure.go hle rfl) ?_ | refine SEx.of (map_get' (by omega) he) ?_ | refine yf rfl ?_ | refine yt rfl ?_ | refine yo rfl ?_ | refine yc rfl ?_ | refine ys rfl ?_ | refine ye rfl ?_ | refine yn rfl ?_ | refine zw ?_ | refine zdt ?_ | refine zdf ?_ | refine znt ?_ | refine znf ?_ | refine zcd ?_ | refine zci ?_ | refine zc3 ?_) <;> (conv => whnf)))
          refine hR (s.nodes.length - (i + 1)) _ _ (by omega) ⟨_, _, ?_, i + 1, some (d1, d2, dc), by omega, rfl, hb, rfl, rfl⟩
          exact tL [0, 1, 2, 3, 4]
  · have hd0 : s.nodes.drop i = [] := List.drop_of_length_le (by omega)
    rw [hd0, List.foldl_nil] at hb
    subst hb
    cases E
    all_goals ((conv => whnf); repeat ((first | refine yf rfl ?_ | refine yt rfl ?_ | refine yo rfl ?_ | refine yc rfl ?_ | refine ys rfl ?_ | refine ye rfl ?_ | refine yn rfl ?_ | refine zw ?_ | refine zdt ?_ | refine zdf ?_ | refine znt ?_ | refine znf ?_ | refine zcd ?_ | refine zci ?_ | refine zc3 ?_) <;> (conv => whnf)))
    all_goals exact pure_free rfl rfl
end
end Go.Eng
/-
Nobody goes where nobody has to: plain laws.
-/
namespace Go.Eng
open Go
theorem costGo_ge {s : StD} : ∀ {l : List Str} {m u : Int}, m ≤ (costGo s l m u).1
  | [], m, u => Int.le_refl _
  | n :: r, m, u => by
    rw [costGo]
    have := costGo_ge (s := s) (l := r) (m := maxI m ((s.pods.find? fun q => q.name == n).getD podZ).prio) (u := IntKind.i64.wrap (u + ((s.pods.find? fun q => q.name == n).getD podZ).prio))
    have h2 : m ≤ maxI m ((s.pods.find? fun q => q.name == n).getD podZ).prio := by unfold maxI; split <;> omega
    omega
theorem less_none {s : StD} {l : List Str} (h : l ≠ []) : lessC (-1, 0, 0) (costD s l) = true ∧ lessC (costD s l) (-1, 0, 0) = false := by
  have h1 := costGo_ge (s := s) (l := l) (m := -1) (u := 0)
  have h2 : 0 < l.length := List.length_pos_iff.2 h
  unfold lessC costD cmpI
  dsimp only
  generalize (costGo s l (-1) 0).1 = m at h1
  by_cases hm : m = -1
  · subst hm
    have e1 : ((0 : Int) < (l.length : Int)) := by omega
    have e2 : ¬ ((l.length : Int) < 0) := by omega
    simp [e1, e2, h, h2]
  · have e1 : (-1 : Int) < m := by omega
    have e2 : ¬ m < -1 := by omega
    simp [e1, e2]
theorem less_self (c : Int × Int × Int) : lessC c c = false := by
  unfold lessC cmpI
  simp
def BestAt (s : StD) (p : PodD) (N : List NodeD) (b : BestV) : Prop :=
  match N.filter fun n => feasD s p n.name with
  | n :: _ => b = some (n.name, [], (-1, 0, 0))
  | [] => ∀ d, b = some d → d.2.1 ≠ [] ∧ d.2.2 = costD s d.2.1
theorem cost_nil (s : StD) : costD s [] = (-1, 0, 0) := rfl
theorem BestAt.step {s : StD} {p : PodD} (hn : s.pods.Pairwise fun a b => a.name ≠ b.name) {N : List NodeD} {n : NodeD} {b : BestV} (h : BestAt s p N b) : BestAt s p (N ++ [n]) (bestStep s p b n) := by
  unfold BestAt at h ⊢
  rw [List.filter_append]
  cases hf : feasD s p n.name with
  | true =>
    have hv := vict_feas (names_inj hn) hf
    rw [List.filter_cons_of_pos (p := fun n : NodeD => feasD s p n.name) hf, List.filter_nil]
    cases hN : N.filter fun n => feasD s p n.name with
    | nil =>
      rw [hN] at h
      dsimp only at h
      show bestStep s p b n = some (n.name, [], (-1, 0, 0))
      unfold bestStep
      rw [hv]
      cases b with
      | none => rfl
      | some d =>
        obtain ⟨h1, h2⟩ := h d rfl
        dsimp only
        rw [cost_nil, h2, if_pos (less_none h1).1]
    | cons m r =>
      rw [hN] at h
      dsimp only at h
      show bestStep s p b n = some (m.name, [], (-1, 0, 0))
      subst h
      unfold bestStep
      rw [hv]
      dsimp only
      rw [cost_nil, if_neg (by rw [less_self]; decide)]
  | false =>
    rw [List.filter_cons_of_neg (p := fun n : NodeD => feasD s p n.name) (by rw [hf]; decide), List.filter_nil, List.append_nil]
    have hnil : ∀ l, victD s p n.name = some l → l ≠ [] := fun l hl e => by
      rw [e] at hl
      rw [vict_nil hl] at hf; cases hf
    cases hN : N.filter fun n => feasD s p n.name with
    | nil =>
      rw [hN] at h
      dsimp only at h ⊢
      intro d hd
      unfold bestStep at hd
      cases hv : victD s p n.name with
      | none => rw [hv] at hd; exact h d hd
      | some l =>
        rw [hv] at hd
        cases b with
        | none => cases hd; exact ⟨hnil l hv, rfl⟩
        | some d0 =>
          dsimp only at hd
          split at hd
          · cases hd; exact ⟨hnil l hv, rfl⟩
          · exact h d hd
    | cons m r =>
      rw [hN] at h
      dsimp only at h ⊢
      subst h
      unfold bestStep
      cases hv : victD s p n.name with
      | none => rfl
      | some l =>
        dsimp only
        rw [if_neg (by rw [(less_none (hnil l hv)).2]; decide)]
theorem best_at {s : StD} {p : PodD} (hn : s.pods.Pairwise fun a b => a.name ≠ b.name) : ∀ (B A : List NodeD) (b : BestV), BestAt s p A b → BestAt s p (A ++ B) (B.foldl (bestStep s p) b)
  | [], A, b, h => by rw [List.append_nil]; exact h
  | n :: r, A, b, h => by
    rw [List.foldl_cons]
    have := best_at hn r (A ++ [n]) _ (h.step hn)
    rwa [List.append_assoc] at this
theorem evict_first {s : StD} {p : PodD} (hn : s.pods.Pairwise fun a b => a.name ≠ b.name) : (∀ x r, whereD s p = x :: r → evictD s p = some (x, [], (-1, 0, 0))) ∧ (whereD s p = [] → ∀ d, evictD s p = some d → d.2.1 ≠ []) := by
  have h := best_at hn s.nodes [] none (show BestAt s p [] none from fun d hd => by cases hd)
  rw [List.nil_append] at h
  unfold BestAt at h
  unfold whereD evictD
  cases hf : s.nodes.filter fun n => feasD s p n.name with
  | nil =>
    rw [hf] at h
    exact ⟨fun x r e => by simp at e, fun _ d hd => (h d hd).1⟩
  | cons m t =>
    rw [hf] at h
    refine ⟨fun x r e => ?_, fun e => by cases e⟩
    rw [List.map_cons] at e
    rw [← (List.cons.inj e).1]
    exact h
end Go.Eng
