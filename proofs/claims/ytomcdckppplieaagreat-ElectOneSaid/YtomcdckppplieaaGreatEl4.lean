/-
One who elects: what it sees; a lease out of bytes.
-/
import Derived.Test.YtomcdckppplieaaGreatEl3
import Derived.Test.YtomcdckppplieaaGreatSt3
set_option linter.unusedVariables false
set_option linter.unusedSimpArgs false
namespace Go.Eng
open Go
section
variable {P : Program} (hG : FnsOk P AF.fns.get)
include hG
set_option maxHeartbeats 8000000 in
set_option maxRecDepth 100000 in
theorem getl_nil : Pure P 13 [.sl none 1 []] (· = .tup [.agg [.i .i64 0, .i .i64 0], .b false]) := by
  refine pure_fn (hG _ AF.f13 rfl) rfl ?_
  ((conv => whnf); repeat ((first | refine SCall.app (fn_sf (hG _ _ rfl) rfl) ?_ | refine SLoopB.un rfl ?_ | refine SWrap.of (by decide) (by decide) ?_ | refine SWrap.mk ?_ | refine yf rfl ?_ | refine yt rfl ?_ | refine yo rfl ?_ | refine yc rfl ?_ | refine ys rfl ?_ | refine ye rfl ?_ | refine yn rfl ?_ | refine zw ?_ | refine zdt ?_ | refine zdf ?_ | refine znt ?_ | refine znf ?_ | refine zcd ?_ | refine zci ?_ | refine zc3 ?_ | refine SLoopZ.un rfl ?_) <;> (conv => whnf)))
  refine SAny.mk fun b => ?_
  cases b
  all_goals
    ((conv => whnf); repeat ((first | refine SCall.app (fn_sf (hG _ _ rfl) rfl) ?_ | refine SLoopB.un rfl ?_ | refine SWrap.of (by decide) (by decide) ?_ | refine SWrap.mk ?_ | refine yf rfl ?_ | refine yt rfl ?_ | refine yo rfl ?_ | refine yc rfl ?_ | refine ys rfl ?_ | refine ye rfl ?_ | refine yn rfl ?_ | refine zw ?_ | refine zdt ?_ | refine zdf ?_ | refine znt ?_ | refine znf ?_ | refine zcd ?_ | refine zci ?_ | refine zc3 ?_ | refine SLoopZ.un rfl ?_) <;> (conv => whnf)))
  all_goals exact pure_free rfl rfl
set_option maxHeartbeats 8000000 in
set_option maxRecDepth 100000 in
theorem getl_ok (n : Nat) (hn : n ≤ 7) : Pure P 13 [.sl none 1 ((leaseB n).map byR)] (· = .tup [.agg [.i .i64 n, .i .i64 1000], .b true]) := by
  refine pure_fn (hG _ AF.f13 rfl) rfl ?_
  have h8 : n = 0 ∨ n = 1 ∨ n = 2 ∨ n = 3 ∨ n = 4 ∨ n = 5 ∨ n = 6 ∨ n = 7 := by omega
  rcases h8 with rfl | rfl | rfl | rfl | rfl | rfl | rfl | rfl
  all_goals
    ((conv => whnf); repeat ((first | refine SCall.app (fn_sf (hG _ _ rfl) rfl) ?_ | refine SLoopB.un rfl ?_ | refine SWrap.of (by decide) (by decide) ?_ | refine SWrap.mk ?_ | refine yf rfl ?_ | refine yt rfl ?_ | refine yo rfl ?_ | refine yc rfl ?_ | refine ys rfl ?_ | refine ye rfl ?_ | refine yn rfl ?_ | refine zw ?_ | refine zdt ?_ | refine zdf ?_ | refine znt ?_ | refine znf ?_ | refine zcd ?_ | refine zci ?_ | refine zc3 ?_ | refine SLoopZ.un rfl ?_) <;> (conv => whnf)))
    exact pure_free rfl rfl
end
end Go.Eng
