/-
Pods in the order of their names: put in, taken out, put in again.
-/
import Derived.Test.YtllgfkpmblhbmaaGreatWiB
import Derived.Test.YtllgfkpmblhbmaaGreatFitD
set_option linter.unusedVariables false
set_option linter.unusedSimpArgs false
namespace Go.Eng
open Go
def Srt (l : List PodD) : Prop := l.Pairwise fun a b => lessS a.name b.name
theorem less_of_not {a b : Str} (h : Op.bytesLess a b = false) (hn : (a == b) = false) : lessS b a := less_tri h (by simpa using hn)
theorem Srt.split {A B : List PodD} {p : PodD} (h : Srt (A ++ p :: B)) : (∀ a ∈ A, lessS a.name p.name) ∧ (∀ b ∈ B, lessS p.name b.name) := by
  obtain ⟨_, h2, h3⟩ := List.pairwise_append.1 h
  exact ⟨fun a ha => h3 a ha p (.head _), fun b hb => (List.pairwise_cons.1 h2).1 b hb⟩
theorem less_ne {a b : Str} (h : lessS a b) : (a == b) = false := by
  cases hc : a == b with
  | false => rfl
  | true =>
    simp only [beq_iff_eq] at hc
    subst hc
    have := less_irr a
    unfold lessS at h
    rw [this] at h; cases h
theorem less_ne' {a b : Str} (h : lessS a b) : (b == a) = false := by
  have := less_ne h
  cases hc : b == a with
  | false => rfl
  | true => simp only [beq_iff_eq] at hc; subst hc; simp at this
theorem none_of {A B : List PodD} {p : PodD} (hA : ∀ a ∈ A, lessS a.name p.name) (hB : ∀ b ∈ B, lessS p.name b.name) : (A ++ B).findIdx? (fun q => q.name == p.name) = none := by
  rw [List.findIdx?_eq_none_iff]
  intro x hx
  rcases List.mem_append.1 hx with h | h
  · exact less_ne (hA x h)
  · exact less_ne' (hB x h)
theorem putL_new {A B : List PodD} {p : PodD} (hA : ∀ a ∈ A, lessS a.name p.name) (hB : ∀ b ∈ B, lessS p.name b.name) : putL (A ++ B) p = A ++ p :: B := by
  unfold putL
  rw [none_of hA hB]
  have hl : ((A ++ B).takeWhile fun q => Op.bytesLess q.name p.name).length = A.length := by
    refine takeWhile_at (by simp) (fun j x hj hx => ?_) (fun x hx => ?_)
    · rw [List.getElem?_append_left hj] at hx
      exact hA x (List.mem_of_getElem? hx)
    · rw [List.getElem?_append_right (Nat.le_refl _), Nat.sub_self] at hx
      exact less_asymm (hB x (List.mem_of_getElem? hx))
  dsimp only
  rw [hl]
  simp
theorem putL_old {A B : List PodD} {p q : PodD} (hA : ∀ a ∈ A, lessS a.name p.name) (hq : q.name = p.name) : putL (A ++ q :: B) p = A ++ p :: B := by
  have : (A ++ q :: B).findIdx? (fun q => q.name == p.name) = some A.length := by
    rw [List.findIdx?_eq_some_iff_getElem]
    refine ⟨by simp, by simp [hq], fun j hj => ?_⟩
    rw [List.getElem_append_left hj]
    simpa using less_ne (hA _ (List.getElem_mem hj))
  unfold putL
  rw [this]
  simp
/-- Where a name falls in a row in order. -/
theorem Srt.cut : ∀ {l : List PodD}, Srt l → ∀ (p : PodD), (∃ A B, l = A ++ B ∧ (∀ a ∈ A, lessS a.name p.name) ∧ ∀ b ∈ B, lessS p.name b.name) ∨ ∃ A q B, l = A ++ q :: B ∧ q.name = p.name ∧ (∀ a ∈ A, lessS a.name p.name) ∧ ∀ b ∈ B, lessS p.name b.name
  | [], _, p => .inl ⟨[], [], rfl, (fun _ h => by cases h), fun _ h => by cases h⟩
  | x :: r, h, p => by
    obtain ⟨h1, h2⟩ := List.pairwise_cons.1 h
    by_cases hlt : Op.bytesLess x.name p.name = true
    · rcases Srt.cut h2 p with ⟨A, B, e, hA, hB⟩ | ⟨A, q, B, e, hq, hA, hB⟩
      · exact .inl ⟨x :: A, B, by simp [e], (fun a ha => by
          cases ha with
          | head => exact hlt
          | tail _ h => exact hA a h), hB⟩
      · exact .inr ⟨x :: A, q, B, by simp [e], hq, (fun a ha => by
          cases ha with
          | head => exact hlt
          | tail _ h => exact hA a h), hB⟩
    · have hlt : Op.bytesLess x.name p.name = false := by simpa using hlt
      by_cases he : x.name = p.name
      · exact .inr ⟨[], x, r, rfl, he, (fun _ h => by cases h), fun b hb => by rw [← he]; exact h1 b hb⟩
      · have hp := less_tri hlt he
        exact .inl ⟨[], x :: r, rfl, (fun _ h => by cases h), fun b hb => by
          cases hb with
          | head => exact hp
          | tail _ h => exact less_trans hp (h1 b h)⟩
theorem Srt.mk {A B : List PodD} {p : PodD} (hs : Srt (A ++ B)) (hA : ∀ a ∈ A, lessS a.name p.name) (hB : ∀ b ∈ B, lessS p.name b.name) : Srt (A ++ p :: B) := by
  obtain ⟨h1, h2, h3⟩ := List.pairwise_append.1 hs
  refine List.pairwise_append.2 ⟨h1, List.pairwise_cons.2 ⟨hB, h2⟩, fun a ha b hb => ?_⟩
  cases hb with
  | head => exact hA a ha
  | tail _ h => exact h3 a ha b h
theorem putL_srt {l : List PodD} (h : Srt l) (p : PodD) : Srt (putL l p) := by
  rcases h.cut p with ⟨A, B, rfl, hA, hB⟩ | ⟨A, q, B, rfl, hq, hA, hB⟩
  · rw [putL_new hA hB]
    exact h.mk hA hB
  · rw [putL_old hA hq]
    refine Srt.mk ?_ hA hB
    obtain ⟨h1, h2, h3⟩ := List.pairwise_append.1 h
    exact List.pairwise_append.2 ⟨h1, (List.pairwise_cons.1 h2).2, fun a ha b hb => h3 a ha b (.tail _ hb)⟩
theorem putL_len (l : List PodD) (p : PodD) : (putL l p).length ≤ l.length + 1 ∧ l.length ≤ (putL l p).length := by
  unfold putL
  split
  · simp
  · simp only [List.length_append, List.length_take, List.length_drop, List.length_cons, List.length_nil]
    omega
theorem putL_mem {l : List PodD} {p q : PodD} (h : q ∈ putL l p) : q ∈ l ∨ q = p := by
  unfold putL at h
  split at h
  · exact List.mem_or_eq_of_mem_set h
  · rcases List.mem_append.1 h with h | h
    · rcases List.mem_append.1 h with h | h
      · exact .inl (List.mem_of_mem_take h)
      · exact .inr (List.mem_singleton.1 h)
    · exact .inl (List.mem_of_mem_drop h)
theorem putL_ne {l : List PodD} {p : PodD} : putL l p ≠ [] := by
  unfold putL
  split
  · rename_i j hj
    intro h
    rw [List.findIdx?_eq_some_iff_getElem] at hj
    obtain ⟨hj, _⟩ := hj
    rw [List.set_eq_nil_iff] at h
    subst h
    simp at hj
  · intro h; simp at h
/-- Without a pod, and with it again; with it twice. -/
theorem put_back {l : List PodD} (h : Srt l) {p : PodD} (hp : p ∈ l) : (l.filter fun q => !([p.name].any fun g => q.name == g)).length + 1 = l.length ∧ putL (l.filter fun q => !([p.name].any fun g => q.name == g)) p = l ∧ putL l p = l := by
  obtain ⟨A, B, rfl⟩ := List.append_of_mem hp
  obtain ⟨hA, hB⟩ := h.split
  have hf : ((A ++ p :: B).filter fun q => !([p.name].any fun g => q.name == g)) = A ++ B := by
    rw [List.filter_append, List.filter_cons]
    have e1 : A.filter (fun q => !([p.name].any fun g => q.name == g)) = A := List.filter_eq_self.2 fun a ha => by simpa using less_ne (hA a ha)
    have e2 : B.filter (fun q => !([p.name].any fun g => q.name == g)) = B := List.filter_eq_self.2 fun a ha => by simpa using less_ne' (hB a ha)
    rw [e1, e2]
    simp
  rw [hf]
  exact ⟨by simp; omega, putL_new hA hB, putL_old hA rfl⟩
end Go.Eng
