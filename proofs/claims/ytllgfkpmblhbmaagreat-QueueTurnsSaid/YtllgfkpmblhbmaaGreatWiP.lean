/-
Who waits: by priority, then by who was first.
-/
import Derived.Test.YtllgfkpmblhbmaaGreatWiS
set_option linter.unusedVariables false
set_option linter.unusedSimpArgs false
namespace Go.Eng
open Go
def cmpI (x y : Int) : Int := if x < y then -1 else if y < x then 1 else 0
/-- How two pods that wait are compared. -/
def cmpP (a b : PodD) : Int := if cmpI b.prio a.prio = 0 then cmpI a.uid b.uid else cmpI b.prio a.prio
def pendL (l : List PodD) : List PodD := isortD (fun a b => decide (cmpP a b < 0)) (l.filter fun q => q.node == [])
section
variable {P : Program} (hG : FnsOk P AF.fns.get)
include hG
theorem cmpInt_ok (x y : Int) : Pure P 44 [.i .i64 x, .i .i64 y] (· = .i .i64 (cmpI x y)) := by
  refine pure_fn (hG _ AF.f44 rfl) rfl ?_
  ((conv => whnf); repeat' ((first | refine SCall.app (fn_sf (hG _ _ rfl) rfl) ?_ | refine yf rfl ?_ | refine yt rfl ?_ | refine yo rfl ?_ | refine yc rfl ?_ | refine ys rfl ?_ | refine ye rfl ?_ | refine yn rfl ?_ | refine zw ?_ | refine zdt ?_ | refine zdf ?_ | refine znt ?_ | refine znf ?_ | refine zcd ?_ | refine zci ?_ | refine zc3 ?_ | refine SLoopZ.un rfl ?_ | refine SIf.ds (fun _ => ?_) (fun _ => ?_) | refine SIf.ns (fun _ => ?_) (fun _ => ?_) | refine SIf.mk (fun _ => ?_) (fun _ => ?_) | (intro r hr; cases r)) <;> (conv => whnf)))
  all_goals (refine pure_free rfl ?_)
  all_goals (unfold cmpI; simp_all)
  all_goals omega
theorem cmpInt64_ok (x y : Int) : Pure P 78 [.i .i64 x, .i .i64 y] (· = .i .i64 (cmpI x y)) := by
  refine pure_fn (hG _ AF.f78 rfl) rfl ?_
  ((conv => whnf); repeat' ((first | refine SCall.app (fn_sf (hG _ _ rfl) rfl) ?_ | refine yf rfl ?_ | refine yt rfl ?_ | refine yo rfl ?_ | refine yc rfl ?_ | refine ys rfl ?_ | refine ye rfl ?_ | refine yn rfl ?_ | refine zw ?_ | refine zdt ?_ | refine zdf ?_ | refine znt ?_ | refine znf ?_ | refine zcd ?_ | refine zci ?_ | refine zc3 ?_ | refine SLoopZ.un rfl ?_ | refine SIf.ds (fun _ => ?_) (fun _ => ?_) | refine SIf.ns (fun _ => ?_) (fun _ => ?_) | refine SIf.mk (fun _ => ?_) (fun _ => ?_) | (intro r hr; cases r)) <;> (conv => whnf)))
  all_goals (refine pure_free rfl ?_)
  all_goals (unfold cmpI; simp_all)
  all_goals omega
theorem cmpP_ok (a b : PodD) : Pure P 77 [.agg (podR a), .agg (podR b)] (· = .i .i64 (cmpP a b)) := by
  have h1 := cmpInt_ok hG b.prio a.prio
  have h2 := cmpInt64_ok hG a.uid b.uid
  unfold cmpP
  generalize cmpI b.prio a.prio = u at h1
  generalize cmpI a.uid b.uid = v at h2
  refine pure_fn (hG _ AF.f77 rfl) rfl ?_
  by_cases h : u = 0
  · subst h
    ((conv => whnf); repeat ((first | refine SCall.app (Pure.go h1 rfl) ?_ | refine SCall.app (Pure.go h2 rfl) ?_ | refine yf rfl ?_ | refine yt rfl ?_ | refine yo rfl ?_ | refine yc rfl ?_ | refine ys rfl ?_ | refine ye rfl ?_ | refine yn rfl ?_ | refine zw ?_ | refine zdt ?_ | refine zdf ?_ | refine znt ?_ | refine znf ?_ | refine zcd ?_ | refine zci ?_ | refine zc3 ?_) <;> (conv => whnf)))
    exact pure_free rfl rfl
  · ((conv => whnf); repeat ((first | refine SCall.app (Pure.go h1 rfl) ?_ | refine SCall.app (Pure.go h2 rfl) ?_ | refine yf rfl ?_ | refine yt rfl ?_ | refine yo rfl ?_ | refine yc rfl ?_ | refine ys rfl ?_ | refine ye rfl ?_ | refine yn rfl ?_ | refine zw ?_ | refine zdt ?_ | refine zdf ?_ | refine znt ?_ | refine znf ?_ | refine zcd ?_ | refine zci ?_ | refine zc3 ?_) <;> (conv => whnf)))
    refine pure_free rfl ?_
    rw [if_neg h]
set_option maxHeartbeats 4000000 in
theorem stablec_pod (c : PodD → PodD → Int) (g : Nat) (hg : ∀ a b : PodD, Pure P g [.agg (podR a), .agg (podR b)] (· = .i .i64 (c a b))) (l : List PodD) (hl : l.length ≤ 19) {r : Nat} {h : Heap} (hr : h.get r = some (.arr 16 (l.map podR))) {K : V → Heap → Prop}
    (hK : K (.tup []) (h.set r (.arr 16 ((isortD (fun a b => decide (c a b < 0)) l).map podR)))) :
    ACall P 94 [.ms (.g r) 16 0 l.length, .i .i64 l.length, .fn g [] []] h K := by
  refine fn_sp (hG _ AF.f94 rfl) rfl ?_
  ((conv => whnf); repeat ((first | refine SLoop.un ?_ | refine SIf.df (by omega) ?_ | refine SCall.app (isortm_pod hG c g hg l (by omega) hr) ?_ | refine SIf.ff rfl ?_ | refine SIf.tt rfl ?_ | refine SOpt.of rfl ?_ | refine SChk.mk rfl ?_ | refine SSame.mk rfl ?_ | refine SEx.of rfl ?_) <;> (conv => whnf)))
  exact hK
set_option maxHeartbeats 4000000 in
theorem stable_pod (c : PodD → PodD → Int) (g : Nat) (hg : ∀ a b : PodD, Pure P g [.agg (podR a), .agg (podR b)] (· = .i .i64 (c a b))) (l : List PodD) (hl : l.length ≤ 19) {r : Nat} {h : Heap} (hr : h.get r = some (.arr 16 (l.map podR))) {K : V → Heap → Prop}
    (hK : K (.tup []) (h.set r (.arr 16 ((isortD (fun a b => decide (c a b < 0)) l).map podR)))) :
    ACall P 42 [.ms (.g r) 16 0 l.length, .fn g [] []] h K := by
  refine fn_sp (hG _ AF.f42 rfl) rfl ?_
  ((conv => whnf); repeat ((first | refine SCall.app (stablec_pod hG c g hg l hl hr) ?_ | refine SIf.ff rfl ?_ | refine SIf.tt rfl ?_ | refine SOpt.of rfl ?_ | refine SChk.mk rfl ?_ | refine SSame.mk rfl ?_ | refine SEx.of rfl ?_) <;> (conv => whnf)))
  exact hK
set_option maxHeartbeats 8000000 in
set_option maxRecDepth 10000 in
theorem pending_ok (s : StD) (hs : s.ok) (hr : ∀ q ∈ s.pods, PodRoom q) (hl19 : s.pods.length ≤ 19) : Pure P 27 [stV s] (· = .sl none 16 ((pendL s.pods).map podR)) := by
  have hlm : (s.pods.map podR).length = s.pods.length := List.length_map _
  obtain ⟨f, hf⟩ : ∃ f : PodD → Bool, f = fun q => q.node == [] := ⟨_, rfl⟩
  refine pure_fn (hG _ AF.f27 rfl) rfl ?_
  ((conv => whnf); repeat ((first | refine yf rfl ?_ | refine yt rfl ?_ | refine yo rfl ?_ | refine yc rfl ?_ | refine ys rfl ?_ | refine ye rfl ?_ | refine yn rfl ?_ | refine zw ?_ | refine zdt ?_ | refine zdf ?_ | refine znt ?_ | refine znf ?_ | refine zcd ?_ | refine zci ?_ | refine zc3 ?_) <;> (conv => whnf)))
  refine SLoopZ.by (fun q fr st => ∃ (i : Nat) (b : Bool) (es : List PodD) (n : Nat), i ≤ s.pods.length ∧ q = s.pods.length - i ∧ es = (s.pods.take i).filter f ∧ (b = false → es = []) ∧ n = es.length ∧
      fr = [(9, .i .i64 i), (8, .i .i64 (s.pods.map podR).length), (7, .sl none 16 (s.pods.map podR)), (3, accM b 16 n)] ∧
      st = ⟨accG b 16 (es.map podR), ⟨0, []⟩⟩)
    s.pods.length ⟨_, _, ?_, 0, false, [], 0, Nat.zero_le _, rfl, rfl, fun _ => rfl, rfl, rfl, rfl⟩ ?_
  · exact tG [] []
  rintro q fr st ⟨i, b, es, n, hi, rfl, hes, hb, hn, rfl, rfl⟩ R hR
  have hesl : es.length ≤ i := by
    rw [hes]
    exact Nat.le_trans (List.length_filter_le _ _) (List.length_take_le _ _)
  have hem : (es.map podR).length = es.length := List.length_map _
  (conv => whnf)
  refine SIf.ds (fun hlt => ?_) (fun hge => ?_)
  · have hi' : i < s.pods.length := by omega
    have he := List.getElem?_eq_getElem hi'
    have hme := hr _ (List.getElem_mem hi')
    generalize s.pods[i] = e at he hme
    have hc := copyPod_ok hG e hme
    have hfe : f e = (e.node == []) := by rw [hf]
    have h1 : f e = true → es ++ [e] = (s.pods.take (i + 1)).filter f := fun h => by
      rw [take_succ' he, List.filter_append, ← hes]
      simp [h]
    have h0 : f e = false → es = (s.pods.take (i + 1)).filter f := fun h => by
      rw [take_succ' he, List.filter_append, ← hes]
      simp [h]
    rw [hfe] at h1 h0
    cases hce : (e.node == ([] : Str)) <;> cases b
    · obtain rfl : es = [] := hb rfl
      ((conv => whnf); repeat ((first | refine SIf.ff hce ?_ | refine SEx.of (map_get' (by omega) he) ?_ | refine yf rfl ?_ | refine yt rfl ?_ | refine yo rfl ?_ | refine yc rfl ?_ | refine ys rfl ?_ | refine ye rfl ?_ | refine yn rfl ?_ | refine zw ?_ | refine zdt ?_ | refine zdf ?_ | refine znt ?_ | refine znf ?_ | refine zcd ?_ | refine zci ?_ | refine zc3 ?_) <;> (conv => whnf)))
      refine hR (s.pods.length - (i + 1)) _ _ (by omega) ⟨_, _, ?_, i + 1, false, [], 0, by omega, rfl, h0 hce, fun _ => rfl, rfl, rfl, rfl⟩
      exact tG [] []
    · ((conv => whnf); repeat ((first | refine SIf.ff hce ?_ | refine SEx.of (map_get' (by omega) he) ?_ | refine yf rfl ?_ | refine yt rfl ?_ | refine yo rfl ?_ | refine yc rfl ?_ | refine ys rfl ?_ | refine ye rfl ?_ | refine yn rfl ?_ | refine zw ?_ | refine zdt ?_ | refine zdf ?_ | refine znt ?_ | refine znf ?_ | refine zcd ?_ | refine zci ?_ | refine zc3 ?_) <;> (conv => whnf)))
      refine hR (s.pods.length - (i + 1)) _ _ (by omega) ⟨_, _, ?_, i + 1, true, es, n, by omega, rfl, h0 hce, (fun h => by cases h), hn, rfl, rfl⟩
      exact tG [0] []
    · obtain rfl : es = [] := hb rfl
      ((conv => whnf); repeat ((first | refine SIf.tt hce ?_ | refine SCall.app (Pure.go hc rfl) ?_ | refine SEx.of (map_get' (by omega) he) ?_ | refine yf rfl ?_ | refine yt rfl ?_ | refine yo rfl ?_ | refine yc rfl ?_ | refine ys rfl ?_ | refine ye rfl ?_ | refine yn rfl ?_ | refine zw ?_ | refine zdt ?_ | refine zdf ?_ | refine znt ?_ | refine znf ?_ | refine zcd ?_ | refine zci ?_ | refine zc3 ?_) <;> (conv => whnf)))
      refine hR (s.pods.length - (i + 1)) _ _ (by omega) ⟨_, _, ?_, i + 1, true, [] ++ [e], 1, by omega, rfl, h1 hce, (fun h => by cases h), rfl, rfl, rfl⟩
      exact tG [1] []
    · ((conv => whnf); repeat ((first | refine SIf.tt hce ?_ | refine SCall.app (Pure.go hc rfl) ?_ | refine SChk.mk (by simp [roomOk]; omega) ?_ | refine SIf.df (by simp only [List.length_cons, List.length_nil, List.length_map]; omega) ?_ | refine SEx.of (map_get' (by omega) he) ?_ | refine yf rfl ?_ | refine yt rfl ?_ | refine yo rfl ?_ | refine yc rfl ?_ | refine ys rfl ?_ | refine ye rfl ?_ | refine yn rfl ?_ | refine zw ?_ | refine zdt ?_ | refine zdf ?_ | refine znt ?_ | refine znf ?_ | refine zcd ?_ | refine zci ?_ | refine zc3 ?_) <;> (conv => whnf)))
      refine hR (s.pods.length - (i + 1)) _ _ (by omega) ⟨_, _, ?_, i + 1, true, es ++ [e], n + 1, by omega, rfl, h1 hce, (fun h => by cases h), by simp [hn], rfl, rfl⟩
      exact tG [2] []
  · have hall : es = s.pods.filter f := by
      rw [hes, List.take_of_length_le (by omega)]
    rw [hf] at hall
    cases b
    · obtain rfl : es = [] := hb rfl
      ((conv => whnf); repeat ((first | refine SCall.app (fn_sf (hG _ _ rfl) rfl) ?_ | refine SLoopB.un rfl ?_ | refine yf rfl ?_ | refine yt rfl ?_ | refine yo rfl ?_ | refine yc rfl ?_ | refine ys rfl ?_ | refine ye rfl ?_ | refine yn rfl ?_ | refine zw ?_ | refine zdt ?_ | refine zdf ?_ | refine znt ?_ | refine znf ?_ | refine zcd ?_ | refine zci ?_ | refine zc3 ?_ | refine SLoopZ.un rfl ?_) <;> (conv => whnf)))
      refine pure_nil (sz := 16) ?_
      rw [pendL, ← hall]
      rfl
    · subst hn
      ((conv => whnf); repeat ((first | refine SCall.app (stable_pod hG cmpP _ (fun a b => cmpP_ok hG a b) es (by omega) rfl) ?_ | refine yf rfl ?_ | refine yt rfl ?_ | refine yo rfl ?_ | refine yc rfl ?_ | refine ys rfl ?_ | refine ye rfl ?_ | refine yn rfl ?_ | refine zw ?_ | refine zdt ?_ | refine zdf ?_ | refine znt ?_ | refine znf ?_ | refine zcd ?_ | refine zci ?_ | refine zc3 ?_) <;> (conv => whnf)))
      refine pure_ms rfl (deep_map (fun _ => rfl) _) (by simp [isortD, isortD_len]) ?_
      rw [List.drop_zero, List.take_of_length_le (by simp [isortD, isortD_len]), pendL, ← hall]
end
end Go.Eng
