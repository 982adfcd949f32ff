/-
Amounts, by the document: known, added, summed.
-/
import Derived.Test.YtbbaiopailpcdaaGreatFitC
set_option linter.unusedVariables false
set_option linter.unusedSimpArgs false
namespace Go.Eng
open Go
def knownD (r : ResD) : Bool := inD r.a && (inD r.b && inD r.c)
def Known (r : ResD) : Prop := (0 ≤ r.a ∧ r.a ≤ 4611686018427387904) ∧ (0 ≤ r.b ∧ r.b ≤ 4611686018427387904) ∧ 0 ≤ r.c ∧ r.c ≤ 4611686018427387904
theorem knownD_t {r : ResD} (h : Known r) : knownD r = true := by
  unfold Known at h
  simp [knownD, inD]
  omega
theorem knownD_f {r : ResD} (h : ¬ Known r) : knownD r = false := by
  cases hk : knownD r with
  | false => rfl
  | true =>
    refine absurd ?_ h
    simp [knownD, inD] at hk
    unfold Known
    omega
section
variable {P : Program} (hG : FnsOk P AF.fns.get)
include hG
theorem rknown_ok (r : ResD) : Pure P 73 [resV r] (· = .b (knownD r)) := by
  refine pure_fn (hG _ AF.f73 rfl) rfl ?_
  ((conv => whnf); repeat' ((first | refine yf rfl ?_ | refine yt rfl ?_ | refine yo rfl ?_ | refine yc rfl ?_ | refine ys rfl ?_ | refine ye rfl ?_ | refine yn rfl ?_ | refine zw ?_ | refine zdt ?_ | refine zdf ?_ | refine znt ?_ | refine znf ?_ | refine zcd ?_ | refine zci ?_ | refine zc3 ?_ | refine SLoopZ.un rfl ?_ | refine SIf.ds (fun _ => ?_) (fun _ => ?_) | refine SIf.ns (fun _ => ?_) (fun _ => ?_) | refine SIf.mk (fun _ => ?_) (fun _ => ?_) | (intro r hr; cases r)) <;> (conv => whnf)))
  all_goals (refine pure_free rfl ?_)
  all_goals first | (rw [knownD_t (by unfold Known; omega)]; done) | (rw [knownD_f (by unfold Known; omega)]; done)
theorem radd_ok (x y : ResD) : Pure P 21 [resV x, resV y] (· = resO (addD x y)) := by
  have kx := rknown_ok hG x
  have ky := rknown_ok hG y
  refine pure_fn (hG _ AF.f21 rfl) rfl ?_
  by_cases hx : Known x
  · rw [knownD_t hx] at kx
    by_cases hy : Known y
    · rw [knownD_t hy] at ky
      unfold Known at hx hy
      ((conv => whnf); repeat' ((first | refine SCall.app (Pure.go kx rfl) ?_ | refine SCall.app (Pure.go ky rfl) ?_ | refine yf rfl ?_ | refine yt rfl ?_ | refine yo rfl ?_ | refine yc rfl ?_ | refine ys rfl ?_ | refine ye rfl ?_ | refine yn rfl ?_ | refine zw ?_ | refine zdt ?_ | refine zdf ?_ | refine znt ?_ | refine znf ?_ | refine zcd ?_ | refine zci ?_ | refine zc3 ?_ | refine SLoopZ.un rfl ?_ | refine SIf.ds (fun _ => ?_) (fun _ => ?_) | refine SIf.ns (fun _ => ?_) (fun _ => ?_) | refine SIf.mk (fun _ => ?_) (fun _ => ?_) | (intro r hr; cases r)) <;> (conv => whnf)))
      all_goals (refine pure_free rfl ?_)
      all_goals first | (rw [addD_f (by omega)]; rfl) | (rw [addD_t (by omega)]; rfl)
    · rw [knownD_f hy] at ky
      unfold Known at hx hy
      ((conv => whnf); repeat' ((first | refine SCall.app (Pure.go kx rfl) ?_ | refine SCall.app (Pure.go ky rfl) ?_ | refine yf rfl ?_ | refine yt rfl ?_ | refine yo rfl ?_ | refine yc rfl ?_ | refine ys rfl ?_ | refine ye rfl ?_ | refine yn rfl ?_ | refine zw ?_ | refine zdt ?_ | refine zdf ?_ | refine znt ?_ | refine znf ?_ | refine zcd ?_ | refine zci ?_ | refine zc3 ?_ | refine SLoopZ.un rfl ?_ | refine SIf.ds (fun _ => ?_) (fun _ => ?_) | refine SIf.ns (fun _ => ?_) (fun _ => ?_) | refine SIf.mk (fun _ => ?_) (fun _ => ?_) | (intro r hr; cases r)) <;> (conv => whnf)))
      refine pure_free rfl ?_
      rw [addD_f (by omega)]
      rfl
  · rw [knownD_f hx] at kx
    unfold Known at hx
    ((conv => whnf); repeat' ((first | refine SCall.app (Pure.go kx rfl) ?_ | refine yf rfl ?_ | refine yt rfl ?_ | refine yo rfl ?_ | refine yc rfl ?_ | refine ys rfl ?_ | refine ye rfl ?_ | refine yn rfl ?_ | refine zw ?_ | refine zdt ?_ | refine zdf ?_ | refine znt ?_ | refine znf ?_ | refine zcd ?_ | refine zci ?_ | refine zc3 ?_ | refine SLoopZ.un rfl ?_ | refine SIf.ds (fun _ => ?_) (fun _ => ?_) | refine SIf.ns (fun _ => ?_) (fun _ => ?_) | refine SIf.mk (fun _ => ?_) (fun _ => ?_) | (intro r hr; cases r)) <;> (conv => whnf)))
    refine pure_free rfl ?_
    rw [addD_f (by omega)]
    rfl
theorem rsum_ok (l : List ResD) (hl : LenOk l) : Pure P 23 [.sl none 3 (l.map resR)] (· = resO (sumD ⟨0, 0, 0⟩ l)) := by
  have hlm : (l.map resR).length = l.length := List.length_map _
  unfold LenOk at hl
  refine pure_fn (hG _ AF.f23 rfl) rfl ?_
  ((conv => whnf); repeat ((first | refine yf rfl ?_ | refine yt rfl ?_ | refine yo rfl ?_ | refine yc rfl ?_ | refine ys rfl ?_ | refine ye rfl ?_ | refine yn rfl ?_ | refine zw ?_ | refine zdt ?_ | refine zdf ?_ | refine znt ?_ | refine znf ?_ | refine zcd ?_ | refine zci ?_ | refine zc3 ?_) <;> (conv => whnf)))
  refine SLoopZ.by (fun q fr st => ∃ (i : Nat) (s : ResD) (ok : Bool), i ≤ l.length ∧ q = l.length - i ∧ (ok = true → sumD ⟨0, 0, 0⟩ l = sumD s (l.drop i)) ∧ (ok = false → s = ⟨0, 0, 0⟩ ∧ sumD ⟨0, 0, 0⟩ l = none) ∧
      fr = [(6, .i .i64 i), (5, .b ok), (4, .p (.l 1) 0), (2, .p (.l 0) 0), (0, .sl none 3 (l.map resR))] ∧ st = ⟨noG, ⟨2, [(1, .cs (resR s)), (0, .cs (resR ⟨0, 0, 0⟩))]⟩⟩)
    l.length ⟨_, _, ?_, 0, ⟨0, 0, 0⟩, true, Nat.zero_le _, rfl, fun _ => rfl, (fun h => by cases h), rfl, rfl⟩ ?_
  · exact tL [0, 1]
  rintro q fr st ⟨i, s, ok, hi, rfl, h1, h2, rfl, rfl⟩ R hR
  (conv => whnf)
  refine SIf.ds (fun hlt => ?_) (fun hge => ?_)
  · have hi' : i < l.length := by omega
    have he := List.getElem?_eq_getElem hi'
    cases ok
    · obtain ⟨rfl, hs⟩ := h2 rfl
      rw [hs]
      ((conv => whnf); repeat ((first | refine yf rfl ?_ | refine yt rfl ?_ | refine yo rfl ?_ | refine yc rfl ?_ | refine ys rfl ?_ | refine ye rfl ?_ | refine yn rfl ?_ | refine zw ?_ | refine zdt ?_ | refine zdf ?_ | refine znt ?_ | refine znf ?_ | refine zcd ?_ | refine zci ?_ | refine zc3 ?_) <;> (conv => whnf)))
      exact pure_free rfl rfl
    · have h1 := h1 rfl
      rw [List.drop_eq_getElem_cons hi'] at h1
      generalize l[i] = e at he h1
      have ha := radd_ok hG s e
      rw [sumD] at h1
      cases hq : addD s e with
      | none =>
        rw [hq] at ha h1
        ((conv => whnf); repeat ((first | refine SCall.app (Pure.go ha rfl) ?_ | refine SEx.of (map_get' (by omega) he) ?_ | refine yf rfl ?_ | refine yt rfl ?_ | refine yo rfl ?_ | refine yc rfl ?_ | refine ys rfl ?_ | refine ye rfl ?_ | refine yn rfl ?_ | refine zw ?_ | refine zdt ?_ | refine zdf ?_ | refine znt ?_ | refine znf ?_ | refine zcd ?_ | refine zci ?_ | refine zc3 ?_) <;> (conv => whnf)))
        refine hR (l.length - (i + 1)) _ _ (by omega) ⟨_, _, ?_, i + 1, ⟨0, 0, 0⟩, false, by omega, rfl, (fun h => by cases h), fun _ => ⟨rfl, h1⟩, rfl, rfl⟩
        exact tL [0, 1]
      | some t =>
        rw [hq] at ha h1
        ((conv => whnf); repeat ((first | refine SCall.app (Pure.go ha rfl) ?_ | refine SEx.of (map_get' (by omega) he) ?_ | refine yf rfl ?_ | refine yt rfl ?_ | refine yo rfl ?_ | refine yc rfl ?_ | refine ys rfl ?_ | refine ye rfl ?_ | refine yn rfl ?_ | refine zw ?_ | refine zdt ?_ | refine zdf ?_ | refine znt ?_ | refine znf ?_ | refine zcd ?_ | refine zci ?_ | refine zc3 ?_) <;> (conv => whnf)))
        refine hR (l.length - (i + 1)) _ _ (by omega) ⟨_, _, ?_, i + 1, t, true, by omega, rfl, fun _ => h1, (fun h => by cases h), rfl, rfl⟩
        exact tL [0, 1]
  · cases ok
    · obtain ⟨rfl, hs⟩ := h2 rfl
      rw [hs]
      ((conv => whnf); repeat ((first | refine yf rfl ?_ | refine yt rfl ?_ | refine yo rfl ?_ | refine yc rfl ?_ | refine ys rfl ?_ | refine ye rfl ?_ | refine yn rfl ?_ | refine zw ?_ | refine zdt ?_ | refine zdf ?_ | refine znt ?_ | refine znf ?_ | refine zcd ?_ | refine zci ?_ | refine zc3 ?_) <;> (conv => whnf)))
      exact pure_free rfl rfl
    · have h1 := h1 rfl
      rw [List.drop_eq_nil_of_le (by omega), sumD] at h1
      rw [h1]
      ((conv => whnf); repeat ((first | refine yf rfl ?_ | refine yt rfl ?_ | refine yo rfl ?_ | refine yc rfl ?_ | refine ys rfl ?_ | refine ye rfl ?_ | refine yn rfl ?_ | refine zw ?_ | refine zdt ?_ | refine zdf ?_ | refine znt ?_ | refine znf ?_ | refine zcd ?_ | refine zci ?_ | refine zc3 ?_) <;> (conv => whnf)))
      exact pure_free rfl rfl
end
end Go.Eng
