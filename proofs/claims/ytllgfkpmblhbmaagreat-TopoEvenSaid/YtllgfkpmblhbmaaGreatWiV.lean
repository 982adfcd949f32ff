/-
What some pods ask for: sums.
-/
import Derived.Test.YtllgfkpmblhbmaaGreatFitD
import Derived.Test.YtllgfkpmblhbmaaGreatSta1
set_option linter.unusedVariables false
set_option linter.unusedSimpArgs false
namespace Go.Eng
open Go
/-- What some pods ask for. -/
def sumR : List PodD → ResD
  | [] => ⟨0, 0, 0⟩
  | p :: r => ⟨p.req.a + (sumR r).a, p.req.b + (sumR r).b, p.req.c + (sumR r).c⟩
def addR (x y : ResD) : ResD := ⟨x.a + y.a, x.b + y.b, x.c + y.c⟩
theorem addR_zero (x : ResD) : addR ⟨0, 0, 0⟩ x = x := by cases x; simp [addR]
theorem ext3 {a b c a' b' c' : Int} (h1 : a = a') (h2 : b = b') (h3 : c = c') : (⟨a, b, c⟩ : ResD) = ⟨a', b', c'⟩ := by subst h1; subst h2; subst h3; rfl
theorem sumR_append : ∀ l q : List PodD, sumR (l ++ q) = addR (sumR l) (sumR q)
  | [], q => by rw [List.nil_append, sumR, addR_zero]
  | p :: r, q => by
    rw [List.cons_append, sumR, sumR, sumR_append r q]
    exact ext3 (by simp only [addR]; omega) (by simp only [addR]; omega) (by simp only [addR]; omega)
theorem sumR_perm {l q : List PodD} (h : l.Perm q) : sumR l = sumR q := by
  induction h with
  | nil => rfl
  | cons x _ ih => rw [sumR, sumR, ih]
  | swap x y l =>
    rw [sumR, sumR, sumR, sumR]
    exact ext3 (by dsimp only; omega) (by dsimp only; omega) (by dsimp only; omega)
  | trans _ _ a b => exact a.trans b
theorem sumR_split {f g h : PodD → Bool} : ∀ {l : List PodD}, (∀ q ∈ l, h q = (f q || g q) ∧ (f q && g q) = false) → sumR (l.filter h) = addR (sumR (l.filter f)) (sumR (l.filter g)) ∧ (l.filter h).length = (l.filter f).length + (l.filter g).length
  | [], _ => ⟨rfl, rfl⟩
  | p :: r, hh => by
    obtain ⟨h1, h2⟩ := hh p (.head _)
    obtain ⟨i1, i2⟩ := sumR_split (l := r) fun q hq => hh q (.tail _ hq)
    simp only [List.filter_cons]
    rw [h1]
    cases hf : f p <;> cases hg : g p
    · exact ⟨i1, i2⟩
    · refine ⟨?_, by simp [i2]; omega⟩
      simp only [Bool.false_or, if_true, Bool.false_eq_true, if_false, sumR, i1]
      exact ext3 (by simp only [addR]; omega) (by simp only [addR]; omega) (by simp only [addR]; omega)
    · refine ⟨?_, by simp [i2]; omega⟩
      simp only [Bool.true_or, if_true, Bool.false_eq_true, if_false, sumR, i1]
      exact ext3 (by simp only [addR]; omega) (by simp only [addR]; omega) (by simp only [addR]; omega)
    · rw [hf, hg] at h2; cases h2
def MayL (l : List PodD) : Prop := ∀ q ∈ l, ResMay q.req
theorem MayL.filter {l : List PodD} (h : MayL l) (f : PodD → Bool) : MayL (l.filter f) := fun q hq => h q (List.mem_filter.1 hq).1
theorem sumR_bound : ∀ {l : List PodD}, MayL l → (0 ≤ (sumR l).a ∧ (sumR l).a ≤ l.length * 1000000000) ∧ (0 ≤ (sumR l).b ∧ (sumR l).b ≤ l.length * 1000000000) ∧ 0 ≤ (sumR l).c ∧ (sumR l).c ≤ l.length * 1000000000
  | [], _ => by simp [sumR]
  | p :: r, h => by
    have h1 := h p (.head _)
    have h2 := sumR_bound (l := r) fun q hq => h q (.tail _ hq)
    have ha := h1.a
    have hb := h1.b
    have hc := h1.c
    simp only [sumR, List.length_cons]
    omega
theorem addD_sum {l q : List PodD} (hl : MayL l) (hq : MayL q) (h1 : l.length ≤ 1000) (h2 : q.length ≤ 1000) : addD (sumR l) (sumR q) = some (addR (sumR l) (sumR q)) := by
  have b1 := sumR_bound hl
  have b2 := sumR_bound hq
  rw [addD_t (by omega)]
  rfl
theorem sumD_go : ∀ {q l : List PodD}, MayL l → MayL q → l.length + q.length ≤ 1000 → sumD (sumR l) (q.map (·.req)) = some (sumR (l ++ q))
  | [], l, _, _, _ => by simp [sumD]
  | p :: r, l, hl, hq, hn => by
    have h1 := hq p (.head _)
    have b1 := sumR_bound hl
    simp only [List.length_cons] at hn
    have ha := h1.a
    have hb := h1.b
    have hc := h1.c
    have e : addD (sumR l) p.req = some (sumR (l ++ [p])) := by
      rw [addD_t (by omega), sumR_append]
      refine congrArg some (ext3 ?_ ?_ ?_) <;> simp [addR, sumR]
    simp only [List.map_cons, sumD, e]
    rw [sumD_go (l := l ++ [p]) (fun q hq' => by
      rcases List.mem_append.1 hq' with h | h
      · exact hl q h
      · rw [List.mem_singleton.1 h]; exact h1) (fun q hq' => hq q (.tail _ hq')) (by simp; omega)]
    simp
theorem sumD_all {l : List PodD} (hl : MayL l) (hn : l.length ≤ 1000) : sumD ⟨0, 0, 0⟩ (l.map (·.req)) = some (sumR l) := by
  have := sumD_go (q := l) (l := []) (fun _ h => by cases h) hl (by simpa using hn)
  rw [List.nil_append] at this
  exact this
end Go.Eng
