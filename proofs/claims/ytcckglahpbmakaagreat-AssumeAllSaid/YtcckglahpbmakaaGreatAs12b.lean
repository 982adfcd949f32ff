/-
What is to be done is what it is.
-/
import Derived.Test.YtcckglahpbmakaaGreatAs12
set_option linter.unusedVariables false
set_option linter.unusedSimpArgs false
namespace Go.Eng
open Go
section
variable {P : Program} (hG : FnsOk P AF.fns.get)
include hG
set_option maxHeartbeats 4000000 in
theorem eqdo_self {h : Heap} (o : AsD) (hv : o.vic.length ≤ 1000) {K : V → Heap → Prop} (hK : K (.b true) h) : ACall P 32 [.agg (doR o), .agg (doR o)] h K := by
  have hl : (o.vic.map strR).length = o.vic.length := List.length_map _
  have e1 : (!(o.pod == o.pod)) = false := by simp
  have e2 : (!(o.node == o.node)) = false := by simp
  refine fn_sv (hG _ AF.f32 rfl) rfl ?_
  ((conv => whnf); repeat ((first | refine SIf.ff e1 ?_ | refine SIf.ff e2 ?_ | refine SIf.nf (rfl : ((o.vic.map strR).length : Int) = (o.vic.map strR).length) ?_ | refine yf rfl ?_ | refine yt rfl ?_ | refine yo rfl ?_ | refine yc rfl ?_ | refine ys rfl ?_ | refine ye rfl ?_ | refine yn rfl ?_ | refine zw ?_ | refine zdt ?_ | refine zdf ?_ | refine znt ?_ | refine znf ?_ | refine zcd ?_ | refine zci ?_ | refine zc3 ?_) <;> (conv => whnf)))
  refine SLoopV.by (fun q fr st => ∃ i : Nat, i ≤ o.vic.length ∧ q = o.vic.length - i ∧
      Fr.le [(30, .i .i64 i), (29, .i .i64 (o.vic.map strR).length), (3, .p (.l 1) 0), (2, .p (.l 0) 0)] fr ∧ st = ⟨h, ⟨2, [(1, .cs (doR o)), (0, .cs (doR o))]⟩⟩)
    o.vic.length ⟨0, Nat.zero_le _, rfl, (by repeat (first | exact Fr.le_nil | refine Fr.le_cons rfl ?_)), rfl⟩ ?_
  rintro q fr st ⟨i, hi, rfl, hle0, rfl⟩
  refine ⟨_, hle0, fun R hR => ?_⟩
  by_cases hin : i < o.vic.length
  · have he := List.getElem?_eq_getElem hin
    generalize o.vic[i] = x at he
    have e3 : (!(x == x)) = false := by simp
    ((conv => whnf); repeat ((first | refine SIf.dt (show (i : Int) < (o.vic.map strR).length by omega) ?_ | refine SChk.ix (by omega) (by omega) ?_ | refine SIf.ff e3 ?_ | refine SWrap.w64 (by omega) (by omega) ?_ | refine SEx.of (map_get' (f := strR) (by omega) he) ?_ | refine yf rfl ?_ | refine yt rfl ?_ | refine yo rfl ?_ | refine yc rfl ?_ | refine ys rfl ?_ | refine ye rfl ?_ | refine yn rfl ?_ | refine zw ?_ | refine zdt ?_ | refine zdf ?_ | refine znt ?_ | refine znf ?_ | refine zcd ?_ | refine zci ?_ | refine zc3 ?_) <;> (conv => whnf)))
    exact hR (o.vic.length - (i + 1)) _ _ (by omega) ⟨i + 1, by omega, rfl, (by repeat (first | exact Fr.le_nil | refine Fr.le_cons rfl ?_)), rfl⟩
  · ((conv => whnf); repeat ((first | refine SIf.df (show ¬ (i : Int) < (o.vic.map strR).length by omega) ?_ | refine yf rfl ?_ | refine yt rfl ?_ | refine yo rfl ?_ | refine yc rfl ?_ | refine ys rfl ?_ | refine ye rfl ?_ | refine yn rfl ?_ | refine zw ?_ | refine zdt ?_ | refine zdf ?_ | refine znt ?_ | refine znf ?_ | refine zcd ?_ | refine zci ?_ | refine zc3 ?_) <;> (conv => whnf)))
    exact hK
end
end Go.Eng
