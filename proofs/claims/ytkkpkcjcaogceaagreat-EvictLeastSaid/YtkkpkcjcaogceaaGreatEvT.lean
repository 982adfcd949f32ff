/-
Where the fewest go: what it costs, and the least of it.
-/
import Derived.Test.YtkkpkcjcaogceaaGreatEvV
import Derived.Test.YtkkpkcjcaogceaaGreatWiG
set_option linter.unusedVariables false
set_option linter.unusedSimpArgs false
namespace Go.Eng
open Go
/-- What victims cost: the greatest priority, how many, the sum (as the machine adds). -/
def costGo (s : StD) : List Str → Int → Int → Int × Int
  | [], m, u => (m, u)
  | n :: r, m, u => costGo s r (maxI m ((s.pods.find? fun q => q.name == n).getD podZ).prio) (IntKind.i64.wrap (u + ((s.pods.find? fun q => q.name == n).getD podZ).prio))
def costD (s : StD) (l : List Str) : Int × Int × Int := ((costGo s l (-1) 0).1, l.length, (costGo s l (-1) 0).2)
def costV (c : Int × Int × Int) : V := .agg [.i .i64 c.1, .i .i64 c.2.1, .i .i64 c.2.2]
def lessC (a b : Int × Int × Int) : Bool :=
  decide ((if cmpI a.1 b.1 = 0 then if cmpI a.2.1 b.2.1 = 0 then cmpI a.2.2 b.2.2 else cmpI a.2.1 b.2.1 else cmpI a.1 b.1) < 0)
abbrev BestV := Option (Str × List Str × (Int × Int × Int))
def bestStep (s : StD) (p : PodD) (b : BestV) (n : NodeD) : BestV :=
  match victD s p n.name with
  | none => b
  | some l => match b with
    | none => some (n.name, l, costD s l)
    | some d => if lessC (costD s l) d.2.2 then some (n.name, l, costD s l) else some d
def evictD (s : StD) (p : PodD) : BestV := s.nodes.foldl (bestStep s p) none
section
variable {P : Program} (hG : FnsOk P AF.fns.get)
include hG
theorem clone_node (l : List NodeD) (hl : l.length ≤ 1000) : Pure P 56 [.sl none 6 (l.map nodeR)] (· = .sl none 6 (l.map nodeR)) := by
  refine pure_fn (hG _ AF.f56 rfl) rfl ?_
  cases l with
  | nil =>
    ((conv => whnf); repeat ((first | refine yf rfl ?_ | refine yt rfl ?_ | refine yo rfl ?_ | refine yc rfl ?_ | refine ys rfl ?_ | refine ye rfl ?_ | refine yn rfl ?_ | refine zw ?_ | refine zdt ?_ | refine zdf ?_ | refine znt ?_ | refine znf ?_ | refine zcd ?_ | refine zci ?_ | refine zc3 ?_) <;> (conv => whnf)))
    refine SAny.mk fun b => ?_
    cases b
    · ((conv => whnf); repeat ((first | refine yf rfl ?_ | refine yt rfl ?_ | refine yo rfl ?_ | refine yc rfl ?_ | refine ys rfl ?_ | refine ye rfl ?_ | refine yn rfl ?_ | refine zw ?_ | refine zdt ?_ | refine zdf ?_ | refine znt ?_ | refine znf ?_ | refine zcd ?_ | refine zci ?_ | refine zc3 ?_) <;> (conv => whnf)))
      exact pure_ms (ds := []) rfl rfl (Nat.le_refl _) rfl
    · ((conv => whnf); repeat ((first | refine yf rfl ?_ | refine yt rfl ?_ | refine yo rfl ?_ | refine yc rfl ?_ | refine ys rfl ?_ | refine ye rfl ?_ | refine yn rfl ?_ | refine zw ?_ | refine zdt ?_ | refine zdf ?_ | refine znt ?_ | refine znf ?_ | refine zcd ?_ | refine zci ?_ | refine zc3 ?_) <;> (conv => whnf)))
      exact pure_nil rfl
  | cons x r =>
    have hr : roomOk (0 + ((x :: r).map nodeR).length) 88 = true := by
      rw [List.length_map, Nat.zero_add]
      unfold roomOk
      exact decide_eq_true (by omega)
    ((conv => whnf); repeat ((first | refine SEx.of (own_map (fun _ => rfl) (x :: r)) ?_ | refine SChk.mk hr ?_ | refine yf rfl ?_ | refine yt rfl ?_ | refine yo rfl ?_ | refine yc rfl ?_ | refine ys rfl ?_ | refine ye rfl ?_ | refine yn rfl ?_ | refine zw ?_ | refine zdt ?_ | refine zdf ?_ | refine znt ?_ | refine znf ?_ | refine zcd ?_ | refine zci ?_ | refine zc3 ?_) <;> (conv => whnf)))
    refine pure_ms rfl (deep_map (fun _ => rfl) (x :: r)) (by simp) ?_
    simp [List.take_of_length_le]
theorem cmpN_ok (hcmp : CmpOk P) (a b : NodeD) : Pure P 58 [.agg (nodeR a), .agg (nodeR b)] (· = .i .i64 (cmpB a.name b.name)) := by
  have h2 := compare_ok hG hcmp a.name b.name
  generalize cmpB a.name b.name = v at h2
  refine pure_fn (hG _ AF.f58 rfl) rfl ?_
  ((conv => whnf); repeat ((first | refine SCall.app (Pure.go h2 rfl) ?_ | refine yf rfl ?_ | refine yt rfl ?_ | refine yo rfl ?_ | refine yc rfl ?_ | refine ys rfl ?_ | refine ye rfl ?_ | refine yn rfl ?_ | refine zw ?_ | refine zdt ?_ | refine zdf ?_ | refine znt ?_ | refine znf ?_ | refine zcd ?_ | refine zci ?_ | refine zc3 ?_) <;> (conv => whnf)))
  exact pure_free rfl rfl
set_option maxHeartbeats 4000000 in
theorem isortn_ok (hcmp : CmpOk P) (es : List NodeD) (hl : es.length ≤ 19) (hs : es.Pairwise fun a b => lessS a.name b.name) :
    Pure P 165 [.sl none 6 (es.map nodeR), .i .i64 0, .i .i64 es.length, .fn 58 [] []] (· = .tup []) := by
  have hlm : (es.map nodeR).length = es.length := List.length_map _
  refine pure_fn (hG _ AF.f165 rfl) rfl ?_
  ((conv => whnf); repeat ((first | refine yf rfl ?_ | refine yt rfl ?_ | refine yo rfl ?_ | refine yc rfl ?_ | refine ys rfl ?_ | refine ye rfl ?_ | refine yn rfl ?_ | refine zw ?_ | refine zdt ?_ | refine zdf ?_ | refine znt ?_ | refine znf ?_ | refine zcd ?_ | refine zci ?_ | refine zc3 ?_) <;> (conv => whnf)))
  refine SLoopZ.by (fun q fr st => ∃ i : Nat, 1 ≤ i ∧ i ≤ es.length + 1 ∧ q = es.length + 1 - i ∧
      fr = [(8, .i .i64 i), (3, .fn 58 [] []), (2, .i .i64 es.length), (1, .i .i64 0), (0, .sl none 6 (es.map nodeR))] ∧ st = gst noG)
    es.length ⟨_, _, ?_, 1, by omega, by omega, by omega, rfl, rfl⟩ ?_
  · exact tL0
  rintro q fr st ⟨i, hi1, hi, rfl, rfl, rfl⟩ R hR
  (conv => whnf)
  refine SIf.ds (fun hlt => ?_) (fun hge => ?_)
  · have hi' : i < es.length := by omega
    have hj' : i - 1 < es.length := by omega
    have he := List.getElem?_eq_getElem hi'
    have hf := List.getElem?_eq_getElem hj'
    generalize es[i] = e at he
    generalize es[i - 1] = f at hf
    have hfe := cmpB_of_less (pair_get hs (by omega : i - 1 < i) hf he)
    have hc := cmpN_ok hG hcmp e f
    generalize cmpB e.name f.name = c at hfe hc
    ((conv => whnf); repeat ((first | refine SCall.app (Pure.go hc rfl) ?_ | refine SEx.of (map_get' (by omega) he) ?_ | refine SEx.of (map_get' (by omega) hf) ?_ | refine yf rfl ?_ | refine yt rfl ?_ | refine yo rfl ?_ | refine yc rfl ?_ | refine ys rfl ?_ | refine ye rfl ?_ | refine yn rfl ?_ | refine zw ?_ | refine zdt ?_ | refine zdf ?_ | refine znt ?_ | refine znf ?_ | refine zcd ?_ | refine zci ?_ | refine zc3 ?_ | refine SLoopZ.un rfl ?_) <;> (conv => whnf)))
    refine hR (es.length + 1 - (i + 1)) _ _ (by omega) ⟨_, _, ?_, i + 1, by omega, by omega, rfl, rfl, rfl⟩
    exact tL0
  · ((conv => whnf); repeat ((first | refine yf rfl ?_ | refine yt rfl ?_ | refine yo rfl ?_ | refine yc rfl ?_ | refine ys rfl ?_ | refine ye rfl ?_ | refine yn rfl ?_ | refine zw ?_ | refine zdt ?_ | refine zdf ?_ | refine znt ?_ | refine znf ?_ | refine zcd ?_ | refine zci ?_ | refine zc3 ?_) <;> (conv => whnf)))
    exact pure_free rfl rfl
theorem stablecn_ok (hcmp : CmpOk P) (es : List NodeD) (hl : es.length ≤ 19) (hs : es.Pairwise fun a b => lessS a.name b.name) :
    Pure P 100 [.sl none 6 (es.map nodeR), .i .i64 es.length, .fn 58 [] []] (· = .tup []) := by
  have h := isortn_ok hG hcmp es hl hs
  refine pure_fn (hG _ AF.f100 rfl) rfl ?_
  ((conv => whnf); repeat ((first | refine SCall.app (Pure.go h rfl) ?_ | refine yf rfl ?_ | refine yt rfl ?_ | refine yo rfl ?_ | refine yc rfl ?_ | refine ys rfl ?_ | refine ye rfl ?_ | refine yn rfl ?_ | refine zw ?_ | refine zdt ?_ | refine zdf ?_ | refine znt ?_ | refine znf ?_ | refine zcd ?_ | refine zci ?_ | refine zc3 ?_ | refine SLoopZ.un rfl ?_) <;> (conv => whnf)))
  exact pure_free rfl rfl
theorem stablen_ok (hcmp : CmpOk P) (es : List NodeD) (hl : es.length ≤ 19) (hs : es.Pairwise fun a b => lessS a.name b.name) :
    Pure P 57 [.sl none 6 (es.map nodeR), .fn 58 [] []] (· = .tup []) := by
  have h := stablecn_ok hG hcmp es hl hs
  have hlm : (es.map nodeR).length = es.length := List.length_map _
  refine pure_fn (hG _ AF.f57 rfl) rfl ?_
  ((conv => whnf); repeat ((first | refine yf rfl ?_ | refine yt rfl ?_ | refine yo rfl ?_ | refine yc rfl ?_ | refine ys rfl ?_ | refine ye rfl ?_ | refine yn rfl ?_ | refine zw ?_ | refine zdt ?_ | refine zdf ?_ | refine znt ?_ | refine znf ?_ | refine zcd ?_ | refine zci ?_ | refine zc3 ?_) <;> (conv => whnf)))
  rw [hlm]
  ((conv => whnf); repeat ((first | refine SCall.app (Pure.go h rfl) ?_ | refine yf rfl ?_ | refine yt rfl ?_ | refine yo rfl ?_ | refine yc rfl ?_ | refine ys rfl ?_ | refine ye rfl ?_ | refine yn rfl ?_ | refine zw ?_ | refine zdt ?_ | refine zdf ?_ | refine znt ?_ | refine znf ?_ | refine zcd ?_ | refine zci ?_ | refine zc3 ?_) <;> (conv => whnf)))
  exact pure_free rfl rfl
theorem lessC_ok (a b : Int × Int × Int) : Pure P 60 [costV a, costV b] (· = .b (lessC a b)) := by
  obtain ⟨a1, a2, a3⟩ := a
  obtain ⟨b1, b2, b3⟩ := b
  have h1 := cmpInt_ok hG a1 b1
  have h2 := cmpInt_ok hG a2 b2
  have h3 := cmpInt_ok hG a3 b3
  unfold lessC
  dsimp only
  generalize cmpI a1 b1 = x at h1
  generalize cmpI a2 b2 = y at h2
  generalize cmpI a3 b3 = z at h3
  refine pure_fn (hG _ AF.f60 rfl) rfl ?_
  by_cases hx : x = 0 <;> by_cases hy : y = 0 <;> by_cases hz : z = 0
  all_goals (try subst hx)
  all_goals (try subst hy)
  all_goals (try subst hz)
  all_goals ((conv => whnf); repeat ((first | refine SCall.app (Pure.go h1 rfl) ?_ | refine SCall.app (Pure.go h2 rfl) ?_ | refine SCall.app (Pure.go h3 rfl) ?_ | refine SCall.app (fn_sf (hG _ _ rfl) rfl) ?_ | refine SLoopB.un rfl ?_ | refine yf rfl ?_ | refine yt rfl ?_ | refine yo rfl ?_ | refine yc rfl ?_ | refine ys rfl ?_ | refine ye rfl ?_ | refine yn rfl ?_ | refine zw ?_ | refine zdt ?_ | refine zdf ?_ | refine znt ?_ | refine znf ?_ | refine zcd ?_ | refine zci ?_ | refine zc3 ?_ | refine SLoopZ.un rfl ?_) <;> (conv => whnf)))
  all_goals (refine pure_free rfl ?_)
  all_goals first | rfl | (simp [*]; done)
set_option maxHeartbeats 4000000 in
theorem costs_ok (s : StD) (l : List Str) (hs : s.ok) (hr : ∀ q ∈ s.pods, PodRoom q) (hl : l.length ≤ 1000) : Pure P 59 [stV s, .sl none 1 (l.map strR)] (· = costV (costD s l)) := by
  have hlm : (l.map strR).length = l.length := List.length_map _
  refine pure_fn (hG _ AF.f59 rfl) rfl ?_
  ((conv => whnf); repeat ((first | refine yf rfl ?_ | refine yt rfl ?_ | refine yo rfl ?_ | refine yc rfl ?_ | refine ys rfl ?_ | refine ye rfl ?_ | refine yn rfl ?_ | refine zw ?_ | refine zdt ?_ | refine zdf ?_ | refine znt ?_ | refine znf ?_ | refine zcd ?_ | refine zci ?_ | refine zc3 ?_) <;> (conv => whnf)))
  refine SLoopZ.by (fun q fr st => ∃ (i : Nat) (m u : Int), i ≤ l.length ∧ q = l.length - i ∧ costGo s l (-1) 0 = costGo s (l.drop i) m u ∧
      fr = [(15, .i .i64 i), (14, .i .i64 (l.map strR).length), (13, .sl none 1 (l.map strR)), (5, .p (.l 2) 0), (4, .p (.l 1) 0), (2, .p (.l 0) 0)] ∧
      st = ⟨noG, ⟨3, [(2, .cs [.i .i64 m, .i .i64 (l.map strR).length, .i .i64 u]), (1, .cs [.i .i64 0, .i .i64 0, .i .i64 0]), (0, .cs [.sl none 6 (s.nodes.map nodeR), .sl none 16 (s.pods.map podR)])]⟩⟩)
    l.length ⟨_, _, ?_, 0, -1, 0, Nat.zero_le _, rfl, rfl, rfl, rfl⟩ ?_
  · exact tL [0, 1, 2]
  rintro q fr st ⟨i, m, u, hi, rfl, hc, rfl, rfl⟩ R hR
  (conv => whnf)
  refine SIf.ds (fun hlt => ?_) (fun hge => ?_)
  · have hi' : i < l.length := by omega
    have he := List.getElem?_eq_getElem hi'
    have hdr : l.drop i = l[i] :: l.drop (i + 1) := List.drop_eq_getElem_cons hi'
    rw [hdr, costGo] at hc
    generalize l[i] = e at he hc
    have hg := statePod_ok hG s e hs.pods hr
    obtain ⟨z, hz⟩ : ∃ z, z = (s.pods.find? fun q => q.name == e).getD podZ := ⟨_, rfl⟩
    have hpo : ∃ b : Bool, podO (s.pods.find? fun q => q.name == e) = .tup [.agg (podR z), .b b] := by
      rw [hz]
      cases s.pods.find? fun q => q.name == e with
      | none => exact ⟨_, rfl⟩
      | some q => exact ⟨_, rfl⟩
    obtain ⟨b, hb⟩ := hpo
    rw [hb] at hg
    rw [← hz] at hc
    ((conv => whnf); repeat ((first | refine SCall.app (Pure.go hg rfl) ?_ | refine SOpt.of (mx2 (z := maxI m z.prio) rfl) ?_ | refine SWrap.w64 (by omega) (by omega) ?_ | refine SWrap.mk ?_ | refine SEx.of (map_get' (by omega) he) ?_ | refine yf rfl ?_ | refine yt rfl ?_ | refine yo rfl ?_ | refine yc rfl ?_ | refine ys rfl ?_ | refine ye rfl ?_ | refine yn rfl ?_ | refine zw ?_ | refine zdt ?_ | refine zdf ?_ | refine znt ?_ | refine znf ?_ | refine zcd ?_ | refine zci ?_ | refine zc3 ?_) <;> (conv => whnf)))
    refine hR (l.length - (i + 1)) _ _ (by omega) ⟨_, _, ?_, i + 1, maxI m z.prio, _, by omega, rfl, hc, rfl, rfl⟩
    exact tL [0, 1, 2]
  · have hd0 : l.drop i = [] := List.drop_of_length_le (by omega)
    rw [hd0, costGo] at hc
    ((conv => whnf); repeat ((first | refine yf rfl ?_ | refine yt rfl ?_ | refine yo rfl ?_ | refine yc rfl ?_ | refine ys rfl ?_ | refine ye rfl ?_ | refine yn rfl ?_ | refine zw ?_ | refine zdt ?_ | refine zdf ?_ | refine znt ?_ | refine znf ?_ | refine zcd ?_ | refine zci ?_ | refine zc3 ?_) <;> (conv => whnf)))
    refine pure_free rfl ?_
    unfold costV costD
    rw [hc, hlm]
end
end Go.Eng
