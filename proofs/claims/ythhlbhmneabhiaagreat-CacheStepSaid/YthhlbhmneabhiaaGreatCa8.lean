/-
More of what a cache keeps.
-/
import Derived.Test.YthhlbhmneabhiaaGreatCa5
set_option linter.unusedVariables false
set_option linter.unusedSimpArgs false
namespace Go.Eng
open Go
theorem CacheAt.keep2 {h h' : Heap} {a : Nat} {m : Option Nat} {rev : Int} {D : List EnD} (hc : CacheAt h a m rev D) {but : Nat → Prop} (hk : Heap.Keeps but h h') (ha : ¬ but a) (hm : ∀ k, m = some k → ¬ but k) : CacheAt h' a m rev D := by
  obtain ⟨h1, ⟨hm0, h2, h3, h4⟩ | ⟨mk, hm0, h2, h3, h4, h5⟩⟩ := hc
  · exact ⟨Nat.lt_of_lt_of_le h1 hk.1, .inl ⟨hm0, h2, h3, by rw [hk.2 a h1 ha]; exact h4⟩⟩
  · exact ⟨Nat.lt_of_lt_of_le h1 hk.1, .inr ⟨mk, hm0, h2, Nat.lt_of_lt_of_le h3 hk.1, by rw [hk.2 a h1 ha]; exact h4, by rw [hk.2 mk h3 (hm mk hm0)]; exact h5⟩⟩
theorem stepE_mem : ∀ (xs : List EvD) {D : List EnD} {e : EnD}, e ∈ xs.foldl stepE D → e ∈ D ∨ ∃ x ∈ xs, e = x.e
  | [], _, _, h => .inl h
  | x :: r, D, e, h => by
    rcases stepE_mem r h with h1 | ⟨y, hy, rfl⟩
    · unfold stepE at h1
      split at h1
      · exact .inl ((delE_sub _ _).subset h1)
      · rcases putE_mem h1 with rfl | h2
        · exact .inr ⟨x, .head _, rfl⟩
        · exact .inl h2
    · exact .inr ⟨y, .tail _ hy, rfl⟩
theorem lays_rel : ∀ (es : List EnD) {D L : List EnD}, CaRel D L → CaRel (es.foldl putE D) (es.foldl layL L)
  | [], _, _, h => h
  | e :: r, _, _, h => lays_rel r (h.put e)
theorem puts_same (rev : Int) : ∀ (es : List EnD) (S : List EnD), okE rev S es = true → es.foldl putE S = S ++ es
  | [], S, _ => by simp
  | e :: r, S, h => by
    simp only [okE, Bool.and_eq_true, Option.isNone_iff_eq_none] at h
    rw [List.foldl_cons, putE_new h.1.1.1.1, puts_same rev r _ h.2, List.append_assoc]; rfl
theorem list_rel {rev : Int} {es : List EnD} (h : okE rev [] es = true) : CaRel es (es.foldl layL []) := by
  have h1 := lays_rel es CaRel.nil
  rw [puts_same rev es [] h] at h1
  exact h1
theorem CacheAt.map_lt {h : Heap} {a mk : Nat} {rev : Int} {D : List EnD} (hc : CacheAt h a (some mk) rev D) : mk < h.next := by
  obtain ⟨h1, ⟨hm0, _⟩ | ⟨mk', hm0, h2, h3, _⟩⟩ := hc
  · cases hm0
  · cases hm0; exact h3
end Go.Eng
