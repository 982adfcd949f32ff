/-
A state without some pods; who may go somewhere may go there without others.
-/
import Derived.Test.YtllgfkpmblhbmaaGreatFitW2
import Derived.Test.YtllgfkpmblhbmaaGreatWh0
set_option linter.unusedVariables false
set_option linter.unusedSimpArgs false
namespace Go.Eng
open Go
/-! The plain law. -/
def LeR (x y : ResD) : Prop := (0 ≤ x.a ∧ x.a ≤ y.a) ∧ (0 ≤ x.b ∧ x.b ≤ y.b) ∧ 0 ≤ x.c ∧ x.c ≤ y.c
theorem addD_some {x y t : ResD} (h : addD x y = some t) : ((0 ≤ x.a ∧ 0 ≤ y.a ∧ x.a + y.a ≤ 4611686018427387904) ∧ (0 ≤ x.b ∧ 0 ≤ y.b ∧ x.b + y.b ≤ 4611686018427387904) ∧ 0 ≤ x.c ∧ 0 ≤ y.c ∧ x.c + y.c ≤ 4611686018427387904) ∧ t = ⟨x.a + y.a, x.b + y.b, x.c + y.c⟩ := by
  by_cases hc : (0 ≤ x.a ∧ 0 ≤ y.a ∧ x.a + y.a ≤ 4611686018427387904) ∧ (0 ≤ x.b ∧ 0 ≤ y.b ∧ x.b + y.b ≤ 4611686018427387904) ∧ 0 ≤ x.c ∧ 0 ≤ y.c ∧ x.c + y.c ≤ 4611686018427387904
  · rw [addD_t hc] at h
    cases h
    exact ⟨hc, rfl⟩
  · rw [addD_f hc] at h
    cases h
theorem add_le {x x' y t : ResD} (h : addD x y = some t) (hl : LeR x' x) : ∃ t', addD x' y = some t' ∧ LeR t' t := by
  obtain ⟨h1, rfl⟩ := addD_some h
  unfold LeR at hl ⊢
  exact ⟨_, addD_t (by omega), by dsimp only; omega⟩
theorem sum_less {f : PodD → Bool} : ∀ {l : List PodD} {a a' u : ResD}, LeR a' a → sumD a (l.map (·.req)) = some u → ∃ u', sumD a' ((l.filter f).map (·.req)) = some u' ∧ LeR u' u
  | [], a, a', u, hl, h => by
    cases h
    exact ⟨a', rfl, hl⟩
  | p :: r, a, a', u, hl, h => by
    rw [List.map_cons, sumD] at h
    cases ha : addD a p.req with
    | none => rw [ha] at h; cases h
    | some t =>
      rw [ha] at h
      cases hf : f p
      · rw [List.filter_cons_of_neg (by rw [hf]; decide)]
        refine sum_less (a := t) ?_ h
        obtain ⟨h1, rfl⟩ := addD_some ha
        unfold LeR at hl ⊢
        dsimp only
        omega
      · rw [List.filter_cons_of_pos hf, List.map_cons, sumD]
        obtain ⟨t', ht, hl'⟩ := add_le ha hl
        rw [ht]
        exact sum_less hl' h
theorem used_less {s : StD} {gs : List Str} {node : Str} {u : ResD} (h : usedD s node = some u) : ∃ u', usedD (withoutD s gs) node = some u' ∧ LeR u' u := by
  have : onD (withoutD s gs) node = (onD s node).filter fun q => !(gs.any fun g => q.name == g) := by
    unfold onD withoutD
    rw [List.filter_filter, List.filter_filter]
    congr 1
    funext q
    exact Bool.and_comm _ _
  unfold usedD at h ⊢
  rw [this]
  exact sum_less (by unfold LeR; decide) h
theorem fits_less {t t' c : ResD} (h : fitsD t c = true) (hl : LeR t' t) : fitsD t' c = true := by
  unfold LeR at hl
  simp only [fitsD, Bool.and_eq_true, decide_eq_true_eq] at h ⊢
  omega
theorem any_sub {α : Type} {p f : α → Bool} {l : List α} (h : l.any p = false) : (l.filter f).any p = false := by
  rw [List.any_eq_false] at h ⊢
  exact fun x hx => h x (List.mem_filter.1 hx).1
theorem without_feas {s : StD} {p : PodD} {gs : List Str} {node : Str} (h : feasD s p node = true) (hsk : p.skew ≤ 0) : feasD (withoutD s gs) p node = true := by
  unfold feasD at h ⊢
  have hn : (withoutD s gs).nodes = s.nodes := rfl
  rw [hn]
  cases hf : s.nodes.find? (fun n => n.name == node) with
  | none => rw [hf] at h; cases h
  | some n =>
    rw [hf] at h
    dsimp only at h ⊢
    simp only [eachD, Bool.and_eq_true] at h ⊢
    obtain ⟨h0, h1, h2, h3, h4, h5, h6⟩ := h
    refine ⟨h0, ?_, ?_, h3, h4, ?_, ?_⟩
    · unfold roomD at h1 ⊢
      cases hu : usedD s n.name with
      | none => rw [hu] at h1; cases h1
      | some u =>
        rw [hu] at h1
        dsimp only at h1
        cases ha : addD u p.req with
        | none => rw [ha] at h1; cases h1
        | some t =>
          rw [ha] at h1
          obtain ⟨u', hu', hl⟩ := used_less (gs := gs) hu
          obtain ⟨t', ht', hl'⟩ := add_le ha hl
          rw [hu']
          dsimp only
          rw [ht']
          exact fits_less h1 hl'
    · unfold portsD at h2 ⊢
      rw [Bool.not_eq_true'] at h2 ⊢
      exact any_sub h2
    · unfold apartD at h5 ⊢
      rw [Bool.and_eq_true, Bool.not_eq_true', Bool.not_eq_true'] at h5 ⊢
      exact ⟨h5.1, any_sub h5.2⟩
    · rw [evenD, if_pos hsk]
theorem where_mem {s : StD} {p : PodD} {x : Str} (h : x ∈ whereD s p) : feasD s p x = true := by
  obtain ⟨n, hn, rfl⟩ := List.mem_map.1 h
  exact (List.mem_filter.1 hn).2
end Go.Eng
