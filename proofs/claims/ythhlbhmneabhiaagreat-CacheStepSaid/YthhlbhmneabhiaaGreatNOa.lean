/-
Mail: sent behind all else, taken from the first place.
-/
import Derived.Test.YthhlbhmneabhiaaGreatFitA
import Derived.Test.YthhlbhmneabhiaaGreatAfT
set_option linter.unusedVariables false
set_option linter.unusedSimpArgs false
namespace Go.Eng
open Go
theorem own_mp {α : Type} {R : α → List V} {g : Bool} (h : ∀ x, ownG g (R x) = some (R x)) : ∀ l : List α, ownElems g (l.map R) = some (l.map R)
  | [] => rfl
  | x :: r => by simp only [List.map_cons, ownElems, h x, own_mp h r]
def byR (n : Int) : List V := [.i .u8 n]
structure MailD where
  who : Int
  b : List Int
  rep : Bool := false
def mailR (m : MailD) : List V := [.b m.rep, .i .i64 m.who, .sl none 1 (m.b.map byR)]
def mail0 : List V := [.b false, .i .i64 0, .nils]
section
variable {P : Program} (hG : FnsOk P AF.fns.get)
include hG
theorem clone_byte (l : List Int) (hl : l.length * 1 ≤ 140737488355328) : Pure P 105 [.sl none 1 (l.map byR)] (· = .sl none 1 (l.map byR)) := by
  refine pure_fn (hG _ AF.f105 rfl) rfl ?_
  cases l with
  | nil =>
    ((conv => whnf); repeat ((first | refine yf rfl ?_ | refine yt rfl ?_ | refine yo rfl ?_ | refine yc rfl ?_ | refine ys rfl ?_ | refine ye rfl ?_ | refine yn rfl ?_ | refine zw ?_ | refine zdt ?_ | refine zdf ?_ | refine znt ?_ | refine znf ?_ | refine zcd ?_ | refine zci ?_ | refine zc3 ?_) <;> (conv => whnf)))
    refine SAny.mk fun b => ?_
    cases b
    · ((conv => whnf); repeat ((first | refine yf rfl ?_ | refine yt rfl ?_ | refine yo rfl ?_ | refine yc rfl ?_ | refine ys rfl ?_ | refine ye rfl ?_ | refine yn rfl ?_ | refine zw ?_ | refine zdt ?_ | refine zdf ?_ | refine znt ?_ | refine znf ?_ | refine zcd ?_ | refine zci ?_ | refine zc3 ?_) <;> (conv => whnf)))
      exact pure_tok rfl
    · ((conv => whnf); repeat ((first | refine yf rfl ?_ | refine yt rfl ?_ | refine yo rfl ?_ | refine yc rfl ?_ | refine ys rfl ?_ | refine ye rfl ?_ | refine yn rfl ?_ | refine zw ?_ | refine zdt ?_ | refine zdf ?_ | refine znt ?_ | refine znf ?_ | refine zcd ?_ | refine zci ?_ | refine zc3 ?_) <;> (conv => whnf)))
      exact pure_nil rfl
  | cons x r =>
    ((conv => whnf); repeat ((first | refine SEx.of (deep_map (fun _ => rfl) (x :: r)) ?_ | refine SChk.mk (by simpa [roomOk] using hl) ?_ | refine yf rfl ?_ | refine yt rfl ?_ | refine yo rfl ?_ | refine yc rfl ?_ | refine ys rfl ?_ | refine ye rfl ?_ | refine yn rfl ?_ | refine zw ?_ | refine zdt ?_ | refine zdf ?_ | refine znt ?_ | refine znf ?_ | refine zcd ?_ | refine zci ?_ | refine zc3 ?_) <;> (conv => whnf)))
    exact pure_tok rfl
theorem copied_ok (m : MailD) (h : m.b.length * 1 ≤ 140737488355328) : Pure P 89 [.agg (mailR m)] (· = .agg (mailR m)) := by
  have hc := clone_byte hG m.b h
  refine pure_fn (hG _ AF.f89 rfl) rfl ?_
  ((conv => whnf); repeat ((first | refine SCall.app (Pure.go hc rfl) ?_ | refine yf rfl ?_ | refine yt rfl ?_ | refine yo rfl ?_ | refine yc rfl ?_ | refine ys rfl ?_ | refine ye rfl ?_ | refine yn rfl ?_ | refine zw ?_ | refine zdt ?_ | refine zdf ?_ | refine znt ?_ | refine znf ?_ | refine zcd ?_ | refine zci ?_ | refine zc3 ?_) <;> (conv => whnf)))
  exact pure_free rfl rfl
set_option maxHeartbeats 2000000 in
theorem len_ms (L : List MailD) (D : List (List V)) {a c : Nat} {h : Heap} (ha : h.get a = some (.cs [.ms (.g c) 3 0 L.length, .i .i64 50])) {K : V → Heap → Prop} (hK : K (.i .i64 L.length) h) : ACall P 56 [.p (.g a) 0] h K := by
  refine fn_sp (hG _ AF.f56 rfl) rfl ?_
  ((conv => whnf); repeat ((first | refine SIf.ff rfl ?_ | refine SIf.tt rfl ?_ | refine SOpt.of rfl ?_ | refine SChk.mk rfl ?_ | refine SSame.mk rfl ?_ | refine SEx.of (ha) ?_ | refine SEx.of rfl ?_) <;> (conv => whnf)))
  exact hK
theorem len_nil {a : Nat} {h : Heap} (ha : h.get a = some (.cs [.nils, .i .i64 50])) {K : V → Heap → Prop} (hK : K (.i .i64 0) h) : ACall P 56 [.p (.g a) 0] h K := by
  refine fn_sp (hG _ AF.f56 rfl) rfl ?_
  ((conv => whnf); repeat ((first | refine SIf.ff rfl ?_ | refine SIf.tt rfl ?_ | refine SOpt.of rfl ?_ | refine SChk.mk rfl ?_ | refine SSame.mk rfl ?_ | refine SEx.of (ha) ?_ | refine SEx.of rfl ?_) <;> (conv => whnf)))
  exact hK
end
end Go.Eng
