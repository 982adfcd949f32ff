/-
Who goes where it may leaves a whole state whole.
-/
import Derived.Test.YtdobfbnfaekafaaGreatWiV
import Derived.Test.YtdobfbnfaekafaaGreatWiA
import Derived.Test.YtdobfbnfaekafaaGreatWh3
import Derived.Test.YtdobfbnfaekafaaGreatFitD
set_option linter.unusedVariables false
set_option linter.unusedSimpArgs false
namespace Go.Eng
open Go
theorem putL_fresh {l : List PodD} {p : PodD} (h : l.findIdx? (fun q => q.name == p.name) = none) : ∃ A B, l = A ++ B ∧ putL l p = A ++ p :: B := by
  unfold putL
  rw [h]
  exact ⟨l.take (l.takeWhile fun q => Op.bytesLess q.name p.name).length, l.drop (l.takeWhile fun q => Op.bytesLess q.name p.name).length, (List.take_append_drop _ l).symm, by simp⟩
/-- Bound to a node. -/
def bindD (p : PodD) (x : Str) : PodD := { p with node := x, term := 1 }
theorem onD_bind {N : List NodeD} {A B : List PodD} {p : PodD} {x : Str} (hx : (x == ([] : Str)) = false) :
    onD ⟨N, A ++ bindD p x :: B⟩ x = onD ⟨N, A⟩ x ++ bindD p x :: onD ⟨N, B⟩ x ∧ ∀ y, y ≠ x → onD ⟨N, A ++ bindD p x :: B⟩ y = onD ⟨N, A ++ B⟩ y := by
  constructor
  · unfold onD
    rw [List.filter_append, List.filter_cons_of_pos]
    simp [bindD, hx]
  · intro y hy
    unfold onD
    rw [List.filter_append, List.filter_append, List.filter_cons_of_neg]
    simp [bindD, Ne.symm hy]
theorem onD_append {N : List NodeD} {A B : List PodD} {x : Str} : onD ⟨N, A ++ B⟩ x = onD ⟨N, A⟩ x ++ onD ⟨N, B⟩ x := by
  unfold onD
  rw [List.filter_append]
theorem used_may {N : List NodeD} {l : List PodD} (h : MayL l) (hl : l.length ≤ 1000) (x : Str) : usedD ⟨N, l⟩ x = some (sumR (onD ⟨N, l⟩ x)) :=
  sumD_all (MayL.filter h _) (Nat.le_trans (List.length_filter_le _ _) hl)
theorem kept_whole {N : List NodeD} {l : List PodD} {p : PodD} {x : Str} (hn : N.Pairwise fun a b => a.name ≠ b.name) (hx : (x == ([] : Str)) = false) (hm : MayL l) (hpm : ResMay p.req) (hl : l.length ≤ 900) (hw : wholeD ⟨N, l⟩ = true) (hf : feasD ⟨N, l⟩ p x = true)
    (hfr : l.findIdx? (fun q => q.name == p.name) = none) : wholeD ⟨N, putL l (bindD p x)⟩ = true := by
  obtain ⟨A, B, rfl, hput⟩ := putL_fresh (p := bindD p x) hfr
  rw [hput]
  unfold feasD at hf
  cases hfi : N.find? (fun n => n.name == x) with
  | none => rw [hfi] at hf; cases hf
  | some n0 =>
  rw [hfi] at hf
  dsimp only at hf
  have hn0 : n0.name = x := by simpa using List.find?_some hfi
  have hn0m : n0 ∈ N := List.mem_of_find?_eq_some hfi
  simp only [eachD, Bool.and_eq_true] at hf
  obtain ⟨h0, h1, h2, h3, h4, h5, h6⟩ := hf
  obtain ⟨o1, o2⟩ := onD_bind (N := N) (A := A) (B := B) (p := p) hx
  have hmA : MayL A := fun q hq => hm q (List.mem_append.2 (.inl hq))
  have hmB : MayL B := fun q hq => hm q (List.mem_append.2 (.inr hq))
  have hmn : MayL (A ++ bindD p x :: B) := fun q hq => by
    rcases List.mem_append.1 hq with h | h
    · exact hmA q h
    · cases h with
      | head => exact hpm
      | tail _ h => exact hmB q h
  have hln : (A ++ bindD p x :: B).length ≤ 1000 := by simp at hl ⊢; omega
  unfold wholeD at hw ⊢
  rw [Bool.and_eq_true] at hw ⊢
  obtain ⟨w1, w2⟩ := hw
  rw [List.all_eq_true] at w1 w2
  rw [List.all_eq_true, List.all_eq_true]
  constructor
  · intro n hnN
    have hwn := w1 n hnN
    try dsimp only at hwn ⊢
    rw [used_may hm (by omega)] at hwn
    rw [used_may hmn hln]
    try dsimp only at hwn ⊢
    by_cases hnx : n.name = x
    · have hnn : n = n0 := by
        by_cases he : n = n0
        · exact he
        · exfalso
          have hsym : ∀ {L : List NodeD}, L.Pairwise (fun a b => a.name ≠ b.name) → n ∈ L → n0 ∈ L → n ≠ n0 → n.name ≠ n0.name := by
            intro L hL
            induction hL with
            | nil => intro h; cases h
            | cons h _ ih =>
              intro a b hne
              cases a with
              | head => cases b with
                | head => exact absurd rfl hne
                | tail _ b => exact h _ b
              | tail _ a => cases b with
                | head => exact Ne.symm (h _ a)
                | tail _ b => exact ih a b hne
          exact hsym hn hnN hn0m he (hnx.trans hn0.symm)
      subst hnn
      rw [hnx] at hwn ⊢
      rw [onD_append] at hwn
      rw [o1]
      rw [Bool.and_eq_true] at hwn ⊢
      obtain ⟨_, k2⟩ := hwn
      constructor
      · unfold roomD at h1
        rw [used_may hm (by omega), hnx, onD_append] at h1
        dsimp only at h1
        have hes : p.req = sumR [bindD p x] := by simp [sumR, bindD]
        have hmo : MayL (onD ⟨N, A⟩ x ++ onD ⟨N, B⟩ x) := fun q hq => by
          rcases List.mem_append.1 hq with h | h
          · exact MayL.filter hmA _ q h
          · exact MayL.filter hmB _ q h
        have hlo : (onD ⟨N, A⟩ x ++ onD ⟨N, B⟩ x).length ≤ 1000 := by
          rw [← onD_append]
          exact Nat.le_trans (List.length_filter_le _ _) (show (A ++ B).length ≤ 1000 by omega)
        rw [hes, addD_sum hmo (fun q hq => by rw [List.mem_singleton.1 hq]; exact hpm) hlo (by simp), ← sumR_append] at h1
        dsimp only at h1
        have hpe : (onD ⟨N, A⟩ x ++ bindD p x :: onD ⟨N, B⟩ x).Perm (onD ⟨N, A⟩ x ++ onD ⟨N, B⟩ x ++ [bindD p x]) := by
          refine List.perm_middle.trans ?_
          exact (List.perm_append_comm (l₁ := [bindD p x]) (l₂ := onD ⟨N, A⟩ x ++ onD ⟨N, B⟩ x))
        rw [sumR_perm hpe]
        exact h1
      · rw [noClash_iff] at k2 ⊢
        obtain ⟨q1, q2, q3⟩ := List.pairwise_append.1 k2
        have hdis : ∀ q ∈ A ++ B, q.node = x → ∀ y ∈ q.ports, y ∉ p.ports := fun q hq hqx y hy hyp => by
          unfold portsD at h2
          rw [Bool.not_eq_true', List.any_eq_false] at h2
          have := h2 q hq
          apply this
          rw [hnx]
          simp only [Bool.and_eq_true, beq_iff_eq, Bool.not_eq_true', List.any_eq_true, decide_eq_true_eq]
          exact ⟨hqx, by rw [hqx]; exact hx, y, hy, y, hyp, rfl⟩
        have hA : ∀ q ∈ onD ⟨N, A⟩ x, q ∈ A ∧ q.node = x := fun q hq => by
          obtain ⟨a, b⟩ := List.mem_filter.1 hq
          simp only [Bool.and_eq_true, beq_iff_eq] at b
          exact ⟨a, b.1⟩
        have hB : ∀ q ∈ onD ⟨N, B⟩ x, q ∈ B ∧ q.node = x := fun q hq => by
          obtain ⟨a, b⟩ := List.mem_filter.1 hq
          simp only [Bool.and_eq_true, beq_iff_eq] at b
          exact ⟨a, b.1⟩
        refine List.pairwise_append.2 ⟨q1, List.pairwise_cons.2 ⟨fun b hb y hy hyb => hdis b (List.mem_append.2 (.inr (hB b hb).1)) (hB b hb).2 y hyb hy, q2⟩, fun a ha b hb => ?_⟩
        cases hb with
        | head => exact fun y hy => hdis a (List.mem_append.2 (.inl (hA a ha).1)) (hA a ha).2 y hy
        | tail _ hb => exact q3 a ha b hb
    · rw [o2 _ hnx]
      exact hwn
  · intro q hq
    rcases List.mem_append.1 hq with h | h
    · exact w2 q (List.mem_append.2 (.inl h))
    · cases h with
      | head =>
        show (x == [] || (N.find? fun n => n.name == x).isSome) = true
        rw [hfi]; simp
      | tail _ h => exact w2 q (List.mem_append.2 (.inr h))
theorem bound_not {s : StD} {p : PodD} {x : Str} (hx : (x == ([] : Str)) = false) : feasD s (bindD p x) x = false := by
  unfold feasD
  split
  · simp [eachD, bindD, hx]
  · rfl
theorem whole_none {N : List NodeD} (h : ∀ n ∈ N, ResMay n.cap) : wholeD ⟨N, []⟩ = true := by
  unfold wholeD
  rw [Bool.and_eq_true]
  refine ⟨List.all_eq_true.2 fun n hn => ?_, rfl⟩
  have hc := h n hn
  have := hc.a
  have := hc.b
  have := hc.c
  show (fitsD ⟨0, 0, 0⟩ n.cap && noClash []) = true
  rw [Bool.and_eq_true]
  refine ⟨?_, rfl⟩
  simp only [fitsD, Bool.and_eq_true, decide_eq_true_eq]
  omega
end Go.Eng
