/-
Mail: sent behind all else, taken from the first place.
-/
import Derived.Test.YtcckglahpbmakaaGreatFitA
import Derived.Test.YtcckglahpbmakaaGreatAfT
set_option linter.unusedVariables false
set_option linter.unusedSimpArgs false
namespace Go.Eng
open Go
def byR (n : Int) : List V := [.i .u8 n]
section
variable {P : Program} (hG : FnsOk P AF.fns.get)
include hG
theorem clone_byte (l : List Int) (hl : l.length * 1 ≤ 140737488355328) : Pure P 100 [.sl none 1 (l.map byR)] (· = .sl none 1 (l.map byR)) := by
  refine pure_fn (hG _ AF.f100 rfl) rfl ?_
  cases l with
  | nil =>
    ((conv => whnf); repeat ((first | refine yf rfl ?_ | refine yt rfl ?_ | refine yo rfl ?_ | refine yc rfl ?_ | refine ys rfl ?_ | refine ye rfl ?_ | refine yn rfl ?_ | refine zw ?_ | refine zdt ?_ | refine zdf ?_ | refine znt ?_ | refine znf ?_ | refine zcd ?_ | refine zci ?_ | refine zc3 ?_) <;> (conv => whnf)))
    refine SAny.mk fun b => ?_
    cases b
    · ((conv => whnf); repeat ((first | refine yf rfl ?_ | refine yt rfl ?_ | refine yo rfl ?_ | refine yc rfl ?_ | refine ys rfl ?_ | refine ye rfl ?_ | refine yn rfl ?_ | refine zw ?_ | refine zdt ?_ | refine zdf ?_ | refine znt ?_ | refine znf ?_ | refine zcd ?_ | refine zci ?_ | refine zc3 ?_) <;> (conv => whnf)))
      exact pure_tok rfl
    · ((conv => whnf); repeat ((first | refine yf rfl ?_ | refine yt rfl ?_ | refine yo rfl ?_ | refine yc rfl ?_ | refine ys rfl ?_ | refine ye rfl ?_ | refine yn rfl ?_ | refine zw ?_ | refine zdt ?_ | refine zdf ?_ | refine znt ?_ | refine znf ?_ | refine zcd ?_ | refine zci ?_ | refine zc3 ?_) <;> (conv => whnf)))
      exact pure_nil rfl
  | cons x r =>
    ((conv => whnf); repeat ((first | refine SEx.of (deep_map (fun _ => rfl) (x :: r)) ?_ | refine SChk.mk (by simpa [roomOk] using hl) ?_ | refine yf rfl ?_ | refine yt rfl ?_ | refine yo rfl ?_ | refine yc rfl ?_ | refine ys rfl ?_ | refine ye rfl ?_ | refine yn rfl ?_ | refine zw ?_ | refine zdt ?_ | refine zdf ?_ | refine znt ?_ | refine znf ?_ | refine zcd ?_ | refine zci ?_ | refine zc3 ?_) <;> (conv => whnf)))
    exact pure_tok rfl
end
end Go.Eng
