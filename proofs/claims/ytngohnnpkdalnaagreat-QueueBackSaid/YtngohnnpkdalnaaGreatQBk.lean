/-
QueueBack, for every number and pod.
-/
import Derived.Test.YtngohnnpkdalnaaGreatQBi0
import Derived.Test.YtngohnnpkdalnaaGreatQBi1
import Derived.Test.YtngohnnpkdalnaaGreatQBi2
import Derived.Test.YtngohnnpkdalnaaGreatQBi3
import Derived.Test.YtngohnnpkdalnaaGreatQBi4
import Derived.Test.YtngohnnpkdalnaaGreatQBi5
import Derived.Test.YtngohnnpkdalnaaGreatQBi6
import Derived.Test.YtngohnnpkdalnaaGreatQBi7
import Derived.Test.YtngohnnpkdalnaaGreatQBi8
import Derived.Test.YtngohnnpkdalnaaGreatQBi9
import Derived.Test.YtngohnnpkdalnaaGreatAfY
import Derived.Test.YtngohnnpkdalnaaGreatFit10q
namespace Go.Eng
open Go
section
variable {P : Program} (hG : FnsOk P AF.fns.get)
include hG
set_option maxHeartbeats 16000000 in
set_option maxRecDepth 20000 in
theorem queueBack_run (hk : okFn P 3 AF.qb = true) (hb : ACall P 4 [] noG (fun r _ => r = .b true)) (n : Int) (p : PodD) (hr : PodRoom (qD p p.uid)) (e1 : Pure P 63 [.agg (podR (qD p p.uid)), .agg (podR (qD p p.uid))] (· = .b true)) :
    ACall P 3 [.i .i64 n, .agg (podR p)] noG (fun r _ => r = .b true) := by
  have b1 := tmod10 n
  have b2 := tmod10 (n.tmod 10 + 10)
  refine fn_sz hk rfl ?_
  ((conv => whnf); repeat ((first | refine yf rfl ?_ | refine yt rfl ?_ | refine yo rfl ?_ | refine yc rfl ?_ | refine ys rfl ?_ | refine ye rfl ?_ | refine yn rfl ?_ | refine zw ?_ | refine zdt ?_ | refine zdf ?_ | refine znt ?_ | refine znf ?_ | refine zcd ?_ | refine zci ?_ | refine zc3 ?_) <;> (conv => whnf)))
  refine ⟨hb.frame rfl fun v h' hv => ?_⟩
  subst hv
  refine ⟨rfl, ?_⟩
  ((conv => whnf); repeat ((first | refine SCall.app (fn_sf (hG _ _ rfl) rfl) ?_ | refine yf rfl ?_ | refine yt rfl ?_ | refine yo rfl ?_ | refine yc rfl ?_ | refine ys rfl ?_ | refine ye rfl ?_ | refine yn rfl ?_ | refine zw ?_ | refine zdt ?_ | refine zdf ?_ | refine znt ?_ | refine znf ?_ | refine zcd ?_ | refine zci ?_ | refine zc3 ?_) <;> (conv => whnf)))
  refine SLoopZ.by (fun q fr st => ∃ i : Nat, i ≤ 10 ∧ q = 10 - i ∧ fr = frQ n i ∧ st = stQ (qD p p.uid) i)
    10 ⟨_, _, ?_, 0, Nat.zero_le _, rfl, rfl, rfl⟩ ?_
  · exact tG [0] [0]
  rintro q fr st ⟨i, hi, rfl, rfl, rfl⟩ R hR
  by_cases hlt : ((i : Nat) : Int) < 1 + (n.tmod 10 + 10).tmod 10
  · have hi' : i < 10 := by omega
    have step : ∀ fr st, TelR fr st (frQ n (i + 1)) (stQ (qD p p.uid) (i + 1)) → R fr st := fun fr st h => hR (10 - (i + 1)) _ _ (by omega) ⟨_, _, h, i + 1, by omega, rfl, rfl, rfl⟩
    clear hR hi
    match i, hi', hlt, step with
    | 0, _, hlt, step => exact qb_it_0 hG n p hr e1 hlt R _ step
    | 1, _, hlt, step => exact qb_it_1 hG n p hr e1 hlt R _ step
    | 2, _, hlt, step => exact qb_it_2 hG n p hr e1 hlt R _ step
    | 3, _, hlt, step => exact qb_it_3 hG n p hr e1 hlt R _ step
    | 4, _, hlt, step => exact qb_it_4 hG n p hr e1 hlt R _ step
    | 5, _, hlt, step => exact qb_it_5 hG n p hr e1 hlt R _ step
    | 6, _, hlt, step => exact qb_it_6 hG n p hr e1 hlt R _ step
    | 7, _, hlt, step => exact qb_it_7 hG n p hr e1 hlt R _ step
    | 8, _, hlt, step => exact qb_it_8 hG n p hr e1 hlt R _ step
    | 9, _, hlt, step => exact qb_it_9 hG n p hr e1 hlt R _ step
  · clear hR
    match i, hi, hlt with
    | 0, _, hlt =>
      have hN := decide_eq_false hlt
      ((conv => whnf); repeat ((first | refine SWrap.w64 (by omega) (by omega) ?_ | refine SIf.ff hN ?_ | refine yf rfl ?_ | refine yt rfl ?_ | refine yo rfl ?_ | refine yc rfl ?_ | refine ys rfl ?_ | refine ye rfl ?_ | refine yn rfl ?_ | refine zw ?_ | refine zdt ?_ | refine zdf ?_ | refine znt ?_ | refine znf ?_ | refine zcd ?_ | refine zci ?_ | refine zc3 ?_) <;> (conv => whnf)))
    | 1, _, hlt =>
      have hN := decide_eq_false hlt
      ((conv => whnf); repeat ((first | refine SWrap.w64 (by omega) (by omega) ?_ | refine SIf.ff hN ?_ | refine yf rfl ?_ | refine yt rfl ?_ | refine yo rfl ?_ | refine yc rfl ?_ | refine ys rfl ?_ | refine ye rfl ?_ | refine yn rfl ?_ | refine zw ?_ | refine zdt ?_ | refine zdf ?_ | refine znt ?_ | refine znf ?_ | refine zcd ?_ | refine zci ?_ | refine zc3 ?_) <;> (conv => whnf)))
    | 2, _, hlt =>
      have hN := decide_eq_false hlt
      ((conv => whnf); repeat ((first | refine SWrap.w64 (by omega) (by omega) ?_ | refine SIf.ff hN ?_ | refine yf rfl ?_ | refine yt rfl ?_ | refine yo rfl ?_ | refine yc rfl ?_ | refine ys rfl ?_ | refine ye rfl ?_ | refine yn rfl ?_ | refine zw ?_ | refine zdt ?_ | refine zdf ?_ | refine znt ?_ | refine znf ?_ | refine zcd ?_ | refine zci ?_ | refine zc3 ?_) <;> (conv => whnf)))
    | 3, _, hlt =>
      have hN := decide_eq_false hlt
      ((conv => whnf); repeat ((first | refine SWrap.w64 (by omega) (by omega) ?_ | refine SIf.ff hN ?_ | refine yf rfl ?_ | refine yt rfl ?_ | refine yo rfl ?_ | refine yc rfl ?_ | refine ys rfl ?_ | refine ye rfl ?_ | refine yn rfl ?_ | refine zw ?_ | refine zdt ?_ | refine zdf ?_ | refine znt ?_ | refine znf ?_ | refine zcd ?_ | refine zci ?_ | refine zc3 ?_) <;> (conv => whnf)))
    | 4, _, hlt =>
      have hN := decide_eq_false hlt
      ((conv => whnf); repeat ((first | refine SWrap.w64 (by omega) (by omega) ?_ | refine SIf.ff hN ?_ | refine yf rfl ?_ | refine yt rfl ?_ | refine yo rfl ?_ | refine yc rfl ?_ | refine ys rfl ?_ | refine ye rfl ?_ | refine yn rfl ?_ | refine zw ?_ | refine zdt ?_ | refine zdf ?_ | refine znt ?_ | refine znf ?_ | refine zcd ?_ | refine zci ?_ | refine zc3 ?_) <;> (conv => whnf)))
    | 5, _, hlt =>
      have hN := decide_eq_false hlt
      ((conv => whnf); repeat ((first | refine SWrap.w64 (by omega) (by omega) ?_ | refine SIf.ff hN ?_ | refine yf rfl ?_ | refine yt rfl ?_ | refine yo rfl ?_ | refine yc rfl ?_ | refine ys rfl ?_ | refine ye rfl ?_ | refine yn rfl ?_ | refine zw ?_ | refine zdt ?_ | refine zdf ?_ | refine znt ?_ | refine znf ?_ | refine zcd ?_ | refine zci ?_ | refine zc3 ?_) <;> (conv => whnf)))
    | 6, _, hlt =>
      have hN := decide_eq_false hlt
      ((conv => whnf); repeat ((first | refine SWrap.w64 (by omega) (by omega) ?_ | refine SIf.ff hN ?_ | refine yf rfl ?_ | refine yt rfl ?_ | refine yo rfl ?_ | refine yc rfl ?_ | refine ys rfl ?_ | refine ye rfl ?_ | refine yn rfl ?_ | refine zw ?_ | refine zdt ?_ | refine zdf ?_ | refine znt ?_ | refine znf ?_ | refine zcd ?_ | refine zci ?_ | refine zc3 ?_) <;> (conv => whnf)))
    | 7, _, hlt =>
      have hN := decide_eq_false hlt
      ((conv => whnf); repeat ((first | refine SWrap.w64 (by omega) (by omega) ?_ | refine SIf.ff hN ?_ | refine yf rfl ?_ | refine yt rfl ?_ | refine yo rfl ?_ | refine yc rfl ?_ | refine ys rfl ?_ | refine ye rfl ?_ | refine yn rfl ?_ | refine zw ?_ | refine zdt ?_ | refine zdf ?_ | refine znt ?_ | refine znf ?_ | refine zcd ?_ | refine zci ?_ | refine zc3 ?_) <;> (conv => whnf)))
    | 8, _, hlt =>
      have hN := decide_eq_false hlt
      ((conv => whnf); repeat ((first | refine SWrap.w64 (by omega) (by omega) ?_ | refine SIf.ff hN ?_ | refine yf rfl ?_ | refine yt rfl ?_ | refine yo rfl ?_ | refine yc rfl ?_ | refine ys rfl ?_ | refine ye rfl ?_ | refine yn rfl ?_ | refine zw ?_ | refine zdt ?_ | refine zdf ?_ | refine znt ?_ | refine znf ?_ | refine zcd ?_ | refine zci ?_ | refine zc3 ?_) <;> (conv => whnf)))
    | 9, _, hlt =>
      have hN := decide_eq_false hlt
      ((conv => whnf); repeat ((first | refine SWrap.w64 (by omega) (by omega) ?_ | refine SIf.ff hN ?_ | refine yf rfl ?_ | refine yt rfl ?_ | refine yo rfl ?_ | refine yc rfl ?_ | refine ys rfl ?_ | refine ye rfl ?_ | refine yn rfl ?_ | refine zw ?_ | refine zdt ?_ | refine zdf ?_ | refine znt ?_ | refine znf ?_ | refine zcd ?_ | refine zci ?_ | refine zc3 ?_) <;> (conv => whnf)))
    | 10, _, hlt =>
      have hN := decide_eq_false hlt
      ((conv => whnf); repeat ((first | refine SWrap.w64 (by omega) (by omega) ?_ | refine SIf.ff hN ?_ | refine yf rfl ?_ | refine yt rfl ?_ | refine yo rfl ?_ | refine yc rfl ?_ | refine ys rfl ?_ | refine ye rfl ?_ | refine yn rfl ?_ | refine zw ?_ | refine zdt ?_ | refine zdf ?_ | refine znt ?_ | refine znf ?_ | refine zcd ?_ | refine zci ?_ | refine zc3 ?_) <;> (conv => whnf)))
theorem queueBack_ok (hk : okFn P 3 AF.qb = true) (hb : ACall P 4 [] noG (fun r _ => r = .b true)) (n : Int) (p : PodD) (hp : p.fit ∧ p.sok) (hpr : PodRoom p) : ACall P 3 [.i .i64 n, .agg (podR p)] noG (fun r _ => r = .b true) := by
  have ho : (qD p p.uid).ok := ⟨hp.1.ports, hp.1.labels, hp.1.tols, hp.1.sel, hp.1.anti, hp.1.even⟩
  refine queueBack_run hG hk hb n p ⟨hpr.ports, hpr.labels, hpr.tols, hpr.sel, hpr.anti, hpr.even⟩ ?_
  have h := eqPod_ok hG (qD p p.uid) (qD p p.uid) ho ho
  rw [decide_eq_true rfl] at h
  exact h
end
end Go.Eng
