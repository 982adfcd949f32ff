/-
Who waits: by priority, then by who was first.
-/
import Derived.Test.YtkkpkcjcaogceaaGreatWiS
set_option linter.unusedVariables false
set_option linter.unusedSimpArgs false
namespace Go.Eng
open Go
def cmpI (x y : Int) : Int := if x < y then -1 else if y < x then 1 else 0
section
variable {P : Program} (hG : FnsOk P AF.fns.get)
include hG
theorem cmpInt_ok (x y : Int) : Pure P 41 [.i .i64 x, .i .i64 y] (· = .i .i64 (cmpI x y)) := by
  refine pure_fn (hG _ AF.f41 rfl) rfl ?_
  ((conv => whnf); repeat' ((first | refine SCall.app (fn_sf (hG _ _ rfl) rfl) ?_ | refine yf rfl ?_ | refine yt rfl ?_ | refine yo rfl ?_ | refine yc rfl ?_ | refine ys rfl ?_ | refine ye rfl ?_ | refine yn rfl ?_ | refine zw ?_ | refine zdt ?_ | refine zdf ?_ | refine znt ?_ | refine znf ?_ | refine zcd ?_ | refine zci ?_ | refine zc3 ?_ | refine SLoopZ.un rfl ?_ | refine SIf.ds (fun _ => ?_) (fun _ => ?_) | refine SIf.ns (fun _ => ?_) (fun _ => ?_) | refine SIf.mk (fun _ => ?_) (fun _ => ?_) | (intro r hr; cases r)) <;> (conv => whnf)))
  all_goals (refine pure_free rfl ?_)
  all_goals (unfold cmpI; simp_all)
  all_goals omega
set_option maxHeartbeats 4000000 in
theorem stablec_pod (c : PodD → PodD → Int) (g : Nat) (hg : ∀ a b : PodD, Pure P g [.agg (podR a), .agg (podR b)] (· = .i .i64 (c a b))) (l : List PodD) (hl : l.length ≤ 19) {r : Nat} {h : Heap} (hr : h.get r = some (.arr 16 (l.map podR))) {K : V → Heap → Prop}
    (hK : K (.tup []) (h.set r (.arr 16 ((isortD (fun a b => decide (c a b < 0)) l).map podR)))) :
    ACall P 84 [.ms (.g r) 16 0 l.length, .i .i64 l.length, .fn g [] []] h K := by
  refine fn_sp (hG _ AF.f84 rfl) rfl ?_
  ((conv => whnf); repeat ((first | refine SLoop.un ?_ | refine SIf.df (by omega) ?_ | refine SCall.app (isortm_pod hG c g hg l (by omega) hr) ?_ | refine SIf.ff rfl ?_ | refine SIf.tt rfl ?_ | refine SOpt.of rfl ?_ | refine SChk.mk rfl ?_ | refine SSame.mk rfl ?_ | refine SEx.of rfl ?_) <;> (conv => whnf)))
  exact hK
set_option maxHeartbeats 4000000 in
theorem stable_pod (c : PodD → PodD → Int) (g : Nat) (hg : ∀ a b : PodD, Pure P g [.agg (podR a), .agg (podR b)] (· = .i .i64 (c a b))) (l : List PodD) (hl : l.length ≤ 19) {r : Nat} {h : Heap} (hr : h.get r = some (.arr 16 (l.map podR))) {K : V → Heap → Prop}
    (hK : K (.tup []) (h.set r (.arr 16 ((isortD (fun a b => decide (c a b < 0)) l).map podR)))) :
    ACall P 39 [.ms (.g r) 16 0 l.length, .fn g [] []] h K := by
  refine fn_sp (hG _ AF.f39 rfl) rfl ?_
  ((conv => whnf); repeat ((first | refine SCall.app (stablec_pod hG c g hg l hl hr) ?_ | refine SIf.ff rfl ?_ | refine SIf.tt rfl ?_ | refine SOpt.of rfl ?_ | refine SChk.mk rfl ?_ | refine SSame.mk rfl ?_ | refine SEx.of rfl ?_) <;> (conv => whnf)))
  exact hK
end
end Go.Eng
