/-
One who elects: whether it leads, what it wants, what it hears.
-/
import Derived.Test.YtomcdckppplieaaGreatEl1
import Derived.Test.YtomcdckppplieaaGreatSt2
set_option linter.unusedVariables false
set_option linter.unusedSimpArgs false
namespace Go.Eng
open Go
def electR (e : ElD) : List V := [.i .i64 e.me, .b e.seen, .b e.there, .i .i64 e.rev, .i .i64 e.holder, .i .i64 e.dur, .i .i64 e.since, .b e.out, .i .i64 e.sent, .i .i64 e.term, .i .i64 e.frm]
structure ElD.ok (e : ElD) : Prop where
  since : TimeOk e.since
  sent : TimeOk e.sent
  frm : TimeOk e.frm
  dur : 0 ≤ e.dur ∧ e.dur ≤ 1000
def leaseB (n : Int) : List Int := [3, n, 0, 0, 0, 0, 0, 0, 3, 232]
section
variable {P : Program} (hG : FnsOk P AF.fns.get)
include hG
theorem eleads_at {h : Heap} {a : Nat} {e : ElD} (ha : h.get a = some (.cs (electR e))) (hok : e.ok) {now : Int} (hn : TimeOk now) {K : V → Heap → Prop} (hK : K (.b (leadsE e now)) h) : ACall P 20 [.p (.g a) 0, .i .i64 now] h K := by
  have hl := lleads_ok hG now e.frm hn hok.frm
  rw [show e.frm + 1000 - 100 = e.frm + 900 by omega] at hl
  unfold leadsE at hK
  by_cases c : 0 < e.term
  · rw [decide_eq_true c, Bool.true_and] at hK
    refine fn_sp (hG _ AF.f20 rfl) rfl ?_
    ((conv => whnf); repeat ((first | refine SCall.app (Pure.go hl rfl) ?_ | refine SEx.of (ha) ?_ | refine yf rfl ?_ | refine yt rfl ?_ | refine yo rfl ?_ | refine yc rfl ?_ | refine ys rfl ?_ | refine ye rfl ?_ | refine yn rfl ?_ | refine zw ?_ | refine zdt ?_ | refine zdf ?_ | refine znt ?_ | refine znf ?_ | refine zcd ?_ | refine zci ?_ | refine zc3 ?_) <;> (conv => whnf)))
    exact hK
  · rw [decide_eq_false c, Bool.false_and] at hK
    refine fn_sp (hG _ AF.f20 rfl) rfl ?_
    ((conv => whnf); repeat ((first | refine SCall.app (Pure.go hl rfl) ?_ | refine SEx.of (ha) ?_ | refine yf rfl ?_ | refine yt rfl ?_ | refine yo rfl ?_ | refine yc rfl ?_ | refine ys rfl ?_ | refine ye rfl ?_ | refine yn rfl ?_ | refine zw ?_ | refine zdt ?_ | refine zdf ?_ | refine znt ?_ | refine znf ?_ | refine zcd ?_ | refine zci ?_ | refine zc3 ?_) <;> (conv => whnf)))
    exact hK
theorem term_at {h : Heap} {a : Nat} {e : ElD} (ha : h.get a = some (.cs (electR e))) {K : V → Heap → Prop} (hK : K (.i .i64 e.term) h) : ACall P 22 [.p (.g a) 0] h K := by
  refine fn_sp (hG _ AF.f22 rfl) rfl ?_
  ((conv => whnf); repeat ((first | refine SEx.of (ha) ?_ | refine yf rfl ?_ | refine yt rfl ?_ | refine yo rfl ?_ | refine yc rfl ?_ | refine ys rfl ?_ | refine ye rfl ?_ | refine yn rfl ?_ | refine zw ?_ | refine zdt ?_ | refine zdf ?_ | refine znt ?_ | refine znf ?_ | refine zcd ?_ | refine zci ?_ | refine zc3 ?_) <;> (conv => whnf)))
  exact hK
set_option maxHeartbeats 4000000 in
theorem wants_at {h : Heap} {a : Nat} {e : ElD} (ha : h.get a = some (.cs (electR e))) (hok : e.ok) {now : Int} (hn : TimeOk now) {K : V → Heap → Prop} (hK : K (.b (wantsE e now)) h) : ACall P 54 [.p (.g a) 0, .i .i64 now] h K := by
  have hl := fun K => eleads_at hG ha hok hn (K := K)
  have hd := due_ok hG now e.frm hn hok.frm
  have hf := free_ok hG now e.since e.dur hn hok.since
  rw [decide_eq_true (show e.dur ≤ 1099511627776 by have := hok.dur; omega), Bool.true_and] at hf
  unfold wantsE at hK
  obtain ⟨me, seen, there, rev, holder, dur, since, out, sent, term, frm⟩ := e
  generalize leadsE _ now = L at hl hK
  cases seen
  · refine fn_sp (hG _ AF.f54 rfl) rfl ?_
    ((conv => whnf); repeat ((first | refine SEx.of (ha) ?_ | refine yf rfl ?_ | refine yt rfl ?_ | refine yo rfl ?_ | refine yc rfl ?_ | refine ys rfl ?_ | refine ye rfl ?_ | refine yn rfl ?_ | refine zw ?_ | refine zdt ?_ | refine zdf ?_ | refine znt ?_ | refine znf ?_ | refine zcd ?_ | refine zci ?_ | refine zc3 ?_) <;> (conv => whnf)))
    exact hK
  · cases L
    · cases there
      · refine fn_sp (hG _ AF.f54 rfl) rfl ?_
        ((conv => whnf); repeat ((first | refine SCall.app (hl _) ?_ | refine SCall.app (Pure.go hd rfl) ?_ | refine SCall.app (Pure.go hf rfl) ?_ | refine SEx.of (ha) ?_ | refine yf rfl ?_ | refine yt rfl ?_ | refine yo rfl ?_ | refine yc rfl ?_ | refine ys rfl ?_ | refine ye rfl ?_ | refine yn rfl ?_ | refine zw ?_ | refine zdt ?_ | refine zdf ?_ | refine znt ?_ | refine znf ?_ | refine zcd ?_ | refine zci ?_ | refine zc3 ?_) <;> (conv => whnf)))
        exact hK
      · dsimp only at hK
        by_cases c : holder = me
        · rw [decide_eq_true c] at hK
          refine fn_sp (hG _ AF.f54 rfl) rfl ?_
          ((conv => whnf); repeat ((first | refine SCall.app (hl _) ?_ | refine SCall.app (Pure.go hd rfl) ?_ | refine SCall.app (Pure.go hf rfl) ?_ | refine SEx.of (ha) ?_ | refine yf rfl ?_ | refine yt rfl ?_ | refine yo rfl ?_ | refine yc rfl ?_ | refine ys rfl ?_ | refine ye rfl ?_ | refine yn rfl ?_ | refine zw ?_ | refine zdt ?_ | refine zdf ?_ | refine znt ?_ | refine znf ?_ | refine zcd ?_ | refine zci ?_ | refine zc3 ?_) <;> (conv => whnf)))
          exact hK
        · rw [decide_eq_false c] at hK
          refine fn_sp (hG _ AF.f54 rfl) rfl ?_
          ((conv => whnf); repeat ((first | refine SCall.app (hl _) ?_ | refine SCall.app (Pure.go hd rfl) ?_ | refine SCall.app (Pure.go hf rfl) ?_ | refine SEx.of (ha) ?_ | refine yf rfl ?_ | refine yt rfl ?_ | refine yo rfl ?_ | refine yc rfl ?_ | refine ys rfl ?_ | refine ye rfl ?_ | refine yn rfl ?_ | refine zw ?_ | refine zdt ?_ | refine zdf ?_ | refine znt ?_ | refine znf ?_ | refine zcd ?_ | refine zci ?_ | refine zc3 ?_) <;> (conv => whnf)))
          exact hK
    · refine fn_sp (hG _ AF.f54 rfl) rfl ?_
      ((conv => whnf); repeat ((first | refine SCall.app (hl _) ?_ | refine SCall.app (Pure.go hd rfl) ?_ | refine SCall.app (Pure.go hf rfl) ?_ | refine SEx.of (ha) ?_ | refine yf rfl ?_ | refine yt rfl ?_ | refine yo rfl ?_ | refine yc rfl ?_ | refine ys rfl ?_ | refine ye rfl ?_ | refine yn rfl ?_ | refine zw ?_ | refine zdt ?_ | refine zdf ?_ | refine znt ?_ | refine znf ?_ | refine zcd ?_ | refine zci ?_ | refine zc3 ?_) <;> (conv => whnf)))
      exact hK
end
end Go.Eng
