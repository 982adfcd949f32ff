/-
Pods by their names, where names are unlike; how many go at most.
-/
import Derived.Test.YtllgfkpmblhbmaaGreatEvP
set_option linter.unusedVariables false
set_option linter.unusedSimpArgs false
namespace Go.Eng
open Go
theorem pod_found {l : List PodD} (hn : l.Pairwise fun a b => a.name ≠ b.name) {q : PodD} (hq : q ∈ l) : l.find? (fun x => x.name == q.name) = some q := by
  induction l with
  | nil => cases hq
  | cons x r ih =>
    rw [List.pairwise_cons] at hn
    cases hq with
    | head => simp
    | tail _ hq =>
      rw [List.find?_cons_of_neg (by simpa using hn.1 q hq)]
      exact ih hn.2 hq
theorem names_inj {l : List PodD} (hn : l.Pairwise fun a b => a.name ≠ b.name) : ∀ a ∈ l, ∀ b ∈ l, a.name = b.name → a = b := fun a ha b hb e => by
  have h1 := pod_found hn ha
  have h2 := pod_found hn hb
  rw [e, h2] at h1
  exact (Option.some.inj h1).symm
theorem keep_le {s : StD} {p : PodD} {node : Str} : ∀ {lo : List PodD} {gone : List Str}, (keepGo s p node lo gone).length ≤ gone.length
  | [], _ => Nat.le_refl _
  | q :: r, gone => by
    rw [keepGo]
    refine Nat.le_trans keep_le ?_
    split
    · exact List.length_filter_le _ _
    · exact Nat.le_refl _
theorem vict_len {s : StD} {p : PodD} {node : Str} {l : List Str} (h : victD s p node = some l) : l.length ≤ s.pods.length := by
  unfold victD at h
  split at h
  · cases h
    have h1 : (sortS (keepGo s p node (lowerD s p node) ((lowerD s p node).map (·.name)))).length = _ := (List.mergeSort_perm _ _).length_eq
    have h2 := keep_le (s := s) (p := p) (node := node) (lo := lowerD s p node) (gone := (lowerD s p node).map (·.name))
    have h3 : (lowerD s p node).length ≤ s.pods.length := by
      unfold lowerD isortD
      rw [isortD_len]
      simp only [List.length_nil, Nat.zero_add]
      exact Nat.le_trans (List.length_filter_le _ _) (List.length_filter_le _ _)
    rw [List.length_map] at h2
    omega
  · cases h
end Go.Eng
