/-
What some pods ask for: sums.
-/
import Derived.Test.YtkkpkcjcaogceaaGreatFitD
import Derived.Test.YtkkpkcjcaogceaaGreatSta1
set_option linter.unusedVariables false
set_option linter.unusedSimpArgs false
namespace Go.Eng
open Go
/-- What some pods ask for. -/
def sumR : List PodD → ResD
  | [] => ⟨0, 0, 0⟩
  | p :: r => ⟨p.req.a + (sumR r).a, p.req.b + (sumR r).b, p.req.c + (sumR r).c⟩
def addR (x y : ResD) : ResD := ⟨x.a + y.a, x.b + y.b, x.c + y.c⟩
theorem addR_zero (x : ResD) : addR ⟨0, 0, 0⟩ x = x := by cases x; simp [addR]
theorem ext3 {a b c a' b' c' : Int} (h1 : a = a') (h2 : b = b') (h3 : c = c') : (⟨a, b, c⟩ : ResD) = ⟨a', b', c'⟩ := by subst h1; subst h2; subst h3; rfl
theorem sumR_append : ∀ l q : List PodD, sumR (l ++ q) = addR (sumR l) (sumR q)
  | [], q => by rw [List.nil_append, sumR, addR_zero]
  | p :: r, q => by
    rw [List.cons_append, sumR, sumR, sumR_append r q]
    exact ext3 (by simp only [addR]; omega) (by simp only [addR]; omega) (by simp only [addR]; omega)
def MayL (l : List PodD) : Prop := ∀ q ∈ l, ResMay q.req
theorem MayL.filter {l : List PodD} (h : MayL l) (f : PodD → Bool) : MayL (l.filter f) := fun q hq => h q (List.mem_filter.1 hq).1
theorem sumR_bound : ∀ {l : List PodD}, MayL l → (0 ≤ (sumR l).a ∧ (sumR l).a ≤ l.length * 1000000000) ∧ (0 ≤ (sumR l).b ∧ (sumR l).b ≤ l.length * 1000000000) ∧ 0 ≤ (sumR l).c ∧ (sumR l).c ≤ l.length * 1000000000
  | [], _ => by simp [sumR]
  | p :: r, h => by
    have h1 := h p (.head _)
    have h2 := sumR_bound (l := r) fun q hq => h q (.tail _ hq)
    have ha := h1.a
    have hb := h1.b
    have hc := h1.c
    simp only [sumR, List.length_cons]
    omega
theorem sumD_go : ∀ {q l : List PodD}, MayL l → MayL q → l.length + q.length ≤ 1000 → sumD (sumR l) (q.map (·.req)) = some (sumR (l ++ q))
  | [], l, _, _, _ => by simp [sumD]
  | p :: r, l, hl, hq, hn => by
    have h1 := hq p (.head _)
    have b1 := sumR_bound hl
    simp only [List.length_cons] at hn
    have ha := h1.a
    have hb := h1.b
    have hc := h1.c
    have e : addD (sumR l) p.req = some (sumR (l ++ [p])) := by
      rw [addD_t (by omega), sumR_append]
      refine congrArg some (ext3 ?_ ?_ ?_) <;> simp [addR, sumR]
    simp only [List.map_cons, sumD, e]
    rw [sumD_go (l := l ++ [p]) (fun q hq' => by
      rcases List.mem_append.1 hq' with h | h
      · exact hl q h
      · rw [List.mem_singleton.1 h]; exact h1) (fun q hq' => hq q (.tail _ hq')) (by simp; omega)]
    simp
theorem sumD_all {l : List PodD} (hl : MayL l) (hn : l.length ≤ 1000) : sumD ⟨0, 0, 0⟩ (l.map (·.req)) = some (sumR l) := by
  have := sumD_go (q := l) (l := []) (fun _ h => by cases h) hl (by simpa using hn)
  rw [List.nil_append] at this
  exact this
end Go.Eng
