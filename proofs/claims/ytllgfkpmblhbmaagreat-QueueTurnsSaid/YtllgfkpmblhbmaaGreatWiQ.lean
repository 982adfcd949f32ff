/-
The sort by insertion: nothing is lost, and it is sorted.
-/
import Derived.Test.YtllgfkpmblhbmaaGreatWiP
set_option linter.unusedVariables false
set_option linter.unusedSimpArgs false
namespace Go.Eng
open Go
section plain
variable {α : Type} {lt : α → α → Bool}
theorem dropWhile_head {f : α → Bool} : ∀ {l : List α} {y : α} {r : List α}, l.dropWhile f = y :: r → f y = false
  | [], _, _, h => by simp at h
  | a :: l, y, r, h => by
    cases hf : f a with
    | true =>
      rw [List.dropWhile_cons, if_pos hf] at h
      exact dropWhile_head h
    | false =>
      rw [List.dropWhile_cons, if_neg (by simp [hf])] at h
      cases h
      exact hf
theorem mem_takeWhile {f : α → Bool} : ∀ {l : List α} {y : α}, y ∈ l.takeWhile f → f y = true
  | [], _, h => by simp at h
  | a :: l, y, h => by
    cases hf : f a with
    | true =>
      rw [List.takeWhile_cons, if_pos hf] at h
      cases h with
      | head => exact hf
      | tail _ h => exact mem_takeWhile h
    | false =>
      rw [List.takeWhile_cons, if_neg (by simp [hf])] at h
      cases h
theorem insD_cut (pre : List α) (x : α) : ∃ A B, pre = A ++ B ∧ insD lt pre x = A ++ x :: B ∧ (∀ b ∈ B, lt x b = true) ∧ (A = [] ∨ ∃ A' y, A = A' ++ [y] ∧ lt x y = false) := by
  have h0 := List.takeWhile_append_dropWhile (p := lt x) (l := pre.reverse)
  obtain ⟨tw, htw⟩ : ∃ tw, tw = pre.reverse.takeWhile (lt x) := ⟨_, rfl⟩
  obtain ⟨dw, hdw⟩ : ∃ dw, dw = pre.reverse.dropWhile (lt x) := ⟨_, rfl⟩
  rw [← htw, ← hdw] at h0
  have hp : pre = dw.reverse ++ tw.reverse := by
    have := congrArg List.reverse h0
    rw [List.reverse_append, List.reverse_reverse] at this
    exact this.symm
  have hk : insIx lt pre x = dw.reverse.length := by
    unfold insIx
    rw [← htw, hp]
    simp
  refine ⟨dw.reverse, tw.reverse, hp, ?_, fun b hb => ?_, ?_⟩
  · unfold insD rowsAt
    rw [hk, hp]
    simp
  · rw [List.mem_reverse, htw] at hb
    exact mem_takeWhile hb
  · cases hd : dw with
    | nil => exact .inl rfl
    | cons y r =>
      refine .inr ⟨r.reverse, y, by simp, ?_⟩
      rw [hdw] at hd
      exact dropWhile_head hd
theorem insD_perm (pre : List α) (x : α) : (insD lt pre x).Perm (x :: pre) := by
  obtain ⟨A, B, h1, h2, _⟩ := insD_cut (lt := lt) pre x
  rw [h2, h1]
  exact List.perm_middle
theorem foldl_perm : ∀ (l acc : List α), (l.foldl (insD lt) acc).Perm (acc ++ l)
  | [], acc => by simp
  | x :: r, acc => by
    rw [List.foldl_cons]
    refine (foldl_perm r _).trans ?_
    refine ((insD_perm acc x).append_right r).trans ?_
    exact (List.perm_middle (l₁ := acc) (l₂ := r)).symm
theorem isortD_perm (l : List α) : (isortD lt l).Perm l := by
  have := foldl_perm (lt := lt) l []
  simpa [isortD] using this
theorem insD_sorted (ha : ∀ a b, lt a b = true → lt b a = false) (ht : ∀ a b c, lt a b = false → lt b c = false → lt a c = false) {pre : List α} (hp : pre.Pairwise fun a b => lt b a = false) (x : α) : (insD lt pre x).Pairwise fun a b => lt b a = false := by
  obtain ⟨A, B, h1, h2, h3, h4⟩ := insD_cut (lt := lt) pre x
  rw [h2]
  rw [h1] at hp
  obtain ⟨p1, p2, p3⟩ := List.pairwise_append.1 hp
  have hA : ∀ a ∈ A, lt x a = false := by
    rcases h4 with rfl | ⟨A', y, rfl, hy⟩
    · intro a h; cases h
    · intro a h
      rcases List.mem_append.1 h with h | h
      · exact ht x y a hy ((List.pairwise_append.1 p1).2.2 a h y (by simp))
      · rw [List.mem_singleton.1 h]; exact hy
  refine List.pairwise_append.2 ⟨p1, List.pairwise_cons.2 ⟨fun b hb => ha x b (h3 b hb), p2⟩, fun a h b hb => ?_⟩
  cases hb with
  | head => exact hA a h
  | tail _ hb => exact p3 a h b hb
theorem foldl_sorted (ha : ∀ a b, lt a b = true → lt b a = false) (ht : ∀ a b c, lt a b = false → lt b c = false → lt a c = false) : ∀ (l acc : List α), (acc.Pairwise fun a b => lt b a = false) → (l.foldl (insD lt) acc).Pairwise fun a b => lt b a = false
  | [], acc, h => h
  | x :: r, acc, h => by
    rw [List.foldl_cons]
    exact foldl_sorted ha ht r _ (insD_sorted ha ht h x)
theorem isortD_sorted (ha : ∀ a b, lt a b = true → lt b a = false) (ht : ∀ a b c, lt a b = false → lt b c = false → lt a c = false) (l : List α) : (isortD lt l).Pairwise fun a b => lt b a = false := foldl_sorted ha ht l [] List.Pairwise.nil
end plain
/-- Whose turn is ahead. -/
def FirstP (a b : PodD) : Prop := b.prio < a.prio ∨ (b.prio = a.prio ∧ a.uid ≤ b.uid)
theorem cmpP_f {a b : PodD} : decide (cmpP b a < 0) = false ↔ FirstP a b := by
  rw [decide_eq_false_iff_not]
  unfold cmpP cmpI FirstP
  repeat' split
  all_goals omega
theorem cmpP_t {a b : PodD} : decide (cmpP a b < 0) = true ↔ ¬ FirstP b a := by
  rw [← cmpP_f]
  simp
theorem pendL_sorted (l : List PodD) : (pendL l).Pairwise FirstP := by
  have := isortD_sorted (lt := fun a b => decide (cmpP a b < 0)) (fun a b h => by
    rw [cmpP_t] at h
    rw [cmpP_f]
    unfold FirstP at *
    omega) (fun a b c h1 h2 => by
    rw [cmpP_f] at *
    unfold FirstP at *
    omega) (l.filter fun q => q.node == [])
  exact this.imp fun h => cmpP_f.1 h
theorem pendL_perm (l : List PodD) : (pendL l).Perm (l.filter fun q => q.node == []) := isortD_perm _
theorem pendL_node {l : List PodD} {q : PodD} (h : q ∈ pendL l) : (q.node == []) = true := by
  have := (pendL_perm l).mem_iff.1 h
  exact (List.mem_filter.1 this).2
end Go.Eng
