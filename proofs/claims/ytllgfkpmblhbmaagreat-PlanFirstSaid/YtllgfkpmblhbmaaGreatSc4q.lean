/-
The best node.
-/
import Derived.Test.YtllgfkpmblhbmaaGreatSc2q
namespace Go.Eng
open Go
def bestGo (s : StD) (p : PodD) (pack : Bool) : List Str → Int → Str → Int × Str
  | [], b, a => (b, a)
  | n :: r, b, a => if b < scoreD s p n pack then bestGo s p pack r (scoreD s p n pack) n else bestGo s p pack r b a
def bestD (s : StD) (p : PodD) (pack : Bool) : Int × Str := bestGo s p pack (whereD s p) (-1) []
section
variable {s : StD} {p : PodD} {pack : Bool}
theorem best_ge : ∀ {L : List Str} {b : Int} {a : Str}, b ≤ (bestGo s p pack L b a).1 ∧ ∀ x ∈ L, scoreD s p x pack ≤ (bestGo s p pack L b a).1
  | [], b, a => ⟨Int.le_refl _, fun _ h => by cases h⟩
  | n :: r, b, a => by
    rw [bestGo]
    split
    · rename_i h
      have ih := best_ge (L := r) (b := scoreD s p n pack) (a := n)
      refine ⟨by omega, fun x hx => ?_⟩
      cases hx with
      | head => exact ih.1
      | tail _ hx => exact ih.2 x hx
    · rename_i h
      have ih := best_ge (L := r) (b := b) (a := a)
      refine ⟨ih.1, fun x hx => ?_⟩
      cases hx with
      | head => omega
      | tail _ hx => exact ih.2 x hx
theorem best_of : ∀ {L : List Str} {b : Int} {a : Str}, bestGo s p pack L b a = (b, a) ∨ ((bestGo s p pack L b a).2 ∈ L ∧ (bestGo s p pack L b a).1 = scoreD s p (bestGo s p pack L b a).2 pack ∧ b < (bestGo s p pack L b a).1)
  | [], b, a => .inl rfl
  | n :: r, b, a => by
    rw [bestGo]
    split
    · rename_i h
      rcases best_of (L := r) (b := scoreD s p n pack) (a := n) with ih | ⟨h1, h2, h3⟩
      · rw [ih]
        exact .inr ⟨.head _, rfl, h⟩
      · exact .inr ⟨.tail _ h1, h2, by omega⟩
    · rcases best_of (L := r) (b := b) (a := a) with ih | ⟨h1, h2, h3⟩
      · exact .inl ih
      · exact .inr ⟨.tail _ h1, h2, h3⟩
end
section
variable {P : Program} (hG : FnsOk P AF.fns.get)
include hG
set_option maxHeartbeats 4000000 in
set_option maxRecDepth 10000 in
theorem best_ok (s : StD) (p : PodD) (pack : Bool) (hwl : (whereD s p).length ≤ 6) (hw : Pure P 16 [stV s, .agg (podR p)] (· = .sl none 1 ((whereD s p).map strR))) (hsc : ∀ node : Str, Pure P 67 [stV s, .agg (podR p), .s node, .b pack] (· = .i .i64 (scoreD s p node pack))) :
    Pure P 22 [stV s, .agg (podR p), .b pack] (· = .tup [.s (bestD s p pack).2, .b (decide ((bestD s p pack).1 ≥ 0))]) := by
  rw [bestD]
  generalize whereD s p = l at hw hwl
  have hlm : (l.map strR).length = l.length := List.length_map _
  refine pure_fn (hG _ AF.f22 rfl) rfl ?_
  ((conv => whnf); repeat ((first | refine SCall.app (Pure.go hw rfl) ?_ | refine yf rfl ?_ | refine yt rfl ?_ | refine yo rfl ?_ | refine yc rfl ?_ | refine ys rfl ?_ | refine ye rfl ?_ | refine yn rfl ?_ | refine zw ?_ | refine zdt ?_ | refine zdf ?_ | refine znt ?_ | refine znf ?_ | refine zcd ?_ | refine zci ?_ | refine zc3 ?_) <;> (conv => whnf)))
  refine SLoopZ.by (fun q fr st => ∃ (i : Nat) (b : Int) (a : Str), i ≤ l.length ∧ q = l.length - i ∧ bestGo s p pack l (-1) [] = bestGo s p pack (l.drop i) b a ∧
      fr = [(17, .i .i64 i), (16, .i .i64 (l.map strR).length), (15, .sl none 1 (l.map strR)), (9, .s a), (8, .i .i64 b), (4, .p (.l 1) 0), (3, .p (.l 0) 0), (2, .b pack)] ∧
      st = ⟨noG, ⟨2, [(1, .cs (podR p)), (0, .cs [.sl none 6 (s.nodes.map nodeR), .sl none 16 (s.pods.map podR)])]⟩⟩)
    l.length ⟨_, _, ?_, 0, -1, [], Nat.zero_le _, rfl, rfl, rfl, rfl⟩ ?_
  · exact tL [0, 1]
  rintro q fr st ⟨i, b, a, hi, rfl, hgo, rfl, rfl⟩ R hR
  (conv => whnf)
  refine SIf.ds (fun hlt => ?_) (fun hge => ?_)
  · have hi' : i < l.length := by omega
    have he := List.getElem?_eq_getElem hi'
    rw [List.drop_eq_getElem_cons hi', bestGo] at hgo
    generalize l[i] = e at he hgo
    have hc := hsc e
    generalize scoreD s p e pack = x at hc hgo
    by_cases hbx : b < x
    · rw [if_pos hbx] at hgo
      ((conv => whnf); repeat ((first | refine SCall.app (Pure.go hc rfl) ?_ | refine SEx.of (map_get' (by omega) he) ?_ | refine yf rfl ?_ | refine yt rfl ?_ | refine yo rfl ?_ | refine yc rfl ?_ | refine ys rfl ?_ | refine ye rfl ?_ | refine yn rfl ?_ | refine zw ?_ | refine zdt ?_ | refine zdf ?_ | refine znt ?_ | refine znf ?_ | refine zcd ?_ | refine zci ?_ | refine zc3 ?_) <;> (conv => whnf)))
      refine hR (l.length - (i + 1)) _ _ (by omega) ⟨_, _, ?_, i + 1, x, e, by omega, rfl, hgo, rfl, rfl⟩
      exact tL [0, 1]
    · rw [if_neg hbx] at hgo
      ((conv => whnf); repeat ((first | refine SCall.app (Pure.go hc rfl) ?_ | refine SEx.of (map_get' (by omega) he) ?_ | refine yf rfl ?_ | refine yt rfl ?_ | refine yo rfl ?_ | refine yc rfl ?_ | refine ys rfl ?_ | refine ye rfl ?_ | refine yn rfl ?_ | refine zw ?_ | refine zdt ?_ | refine zdf ?_ | refine znt ?_ | refine znf ?_ | refine zcd ?_ | refine zci ?_ | refine zc3 ?_) <;> (conv => whnf)))
      refine hR (l.length - (i + 1)) _ _ (by omega) ⟨_, _, ?_, i + 1, b, a, by omega, rfl, hgo, rfl, rfl⟩
      exact tL [0, 1]
  · rw [List.drop_eq_nil_of_le (by omega), bestGo] at hgo
    rw [hgo]
    ((conv => whnf); repeat ((first | refine yf rfl ?_ | refine yt rfl ?_ | refine yo rfl ?_ | refine yc rfl ?_ | refine ys rfl ?_ | refine ye rfl ?_ | refine yn rfl ?_ | refine zw ?_ | refine zdt ?_ | refine zdf ?_ | refine znt ?_ | refine znf ?_ | refine zcd ?_ | refine zci ?_ | refine zc3 ?_) <;> (conv => whnf)))
    exact pure_free rfl rfl
end
end Go.Eng
