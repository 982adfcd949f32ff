/-
The queue: it learns who waits (plain part).
-/
import Derived.Test.YtllgfkpmblhbmaaGreatQu2
set_option linter.unusedVariables false
set_option linter.unusedSimpArgs false
namespace Go.Eng
open Go
def stepQ (p : PodD) (E : Bool) (a : OneD) (x : OneD) : OneD := if x.p.name = p.name ∧ x.p.uid = p.uid then ⟨p, x.parked && E, x.failed, x.time⟩ else a
def seekQ (its : List OneD) (E : Bool) (p : PodD) : OneD := its.foldl (stepQ p E) ⟨p, false, 0, 0⟩
theorem seek_p {E : Bool} {p : PodD} : ∀ (its : List OneD) (a : OneD), a.p = p → (its.foldl (stepQ p E) a).p = p
  | [], _, h => h
  | x :: r, a, h => by
    rw [List.foldl_cons]
    refine seek_p r _ ?_
    unfold stepQ
    split
    · rfl
    · exact h
theorem seek_skip {E : Bool} {p : PodD} : ∀ {its : List OneD} {a : OneD}, (∀ x ∈ its, x.p.name ≠ p.name) → its.foldl (stepQ p E) a = a
  | [], _, _ => rfl
  | x :: r, a, h => by
    rw [List.foldl_cons, show stepQ p E a x = a from if_neg fun c => h x (.head _) c.1]
    exact seek_skip fun y hy => h y (.tail _ hy)
theorem seek_at {E : Bool} {its : List OneD} (hn : its.Pairwise fun a b => a.p.name ≠ b.p.name) {o : OneD} (ho : o ∈ its) : seekQ its E o.p = ⟨o.p, o.parked && E, o.failed, o.time⟩ := by
  obtain ⟨A, B, rfl⟩ := List.append_of_mem ho
  rw [List.pairwise_append, List.pairwise_cons] at hn
  obtain ⟨_, ⟨h2, _⟩, h3⟩ := hn
  unfold seekQ
  rw [List.foldl_append, List.foldl_cons, seek_skip (its := A) fun x hx => h3 x hx o (.head _)]
  rw [show stepQ o.p E ⟨o.p, false, 0, 0⟩ o = ⟨o.p, o.parked && E, o.failed, o.time⟩ from if_pos ⟨rfl, rfl⟩]
  exact seek_skip fun x hx => (h2 x hx).symm
theorem seek_all {E : Bool} {its : List OneD} (hn : its.Pairwise fun a b => a.p.name ≠ b.p.name) : (its.map (·.p)).map (seekQ its E) = its.map fun o => ⟨o.p, o.parked && E, o.failed, o.time⟩ := by
  rw [List.map_map]
  exact List.map_congr_left fun o ho => seek_at hn ho
def qC (lv : V) (s : StD) : List V := [lv, .sl none 6 (s.nodes.map nodeR), .sl none 16 (s.pods.map podR), .b true]
structure SyncI (h : Heap) (q : Nat) (s : StD) (W : List OneD) (h' : Heap) (ks : List Nat) (lv : V) : Prop where
  keeps : Heap.Keeps (fun j => j = q) h h'
  new : ∀ k ∈ ks, h.next ≤ k
  gq : h'.get q = some (.cs (qC lv s))
  row : (ks = [] ∧ lv = .nils) ∨ ∃ c, lv = .ms (.g c) 1 0 ks.length ∧ h.next ≤ c ∧ c < h'.next ∧ c ∉ ks ∧ h'.get c = some (.arr 1 (ks.map kR))
  its : ItsAt h' q ks W
theorem SyncI.q {h : Heap} {q : Nat} {s : StD} {W : List OneD} {h' : Heap} {ks : List Nat} {lv : V} (hi : SyncI h q s W h' ks lv) (hq : q < h.next) : QAt h' q ks W s := by
  refine ⟨by have := hi.keeps.next; omega, ⟨lv, hi.gq, ?_⟩, hi.its⟩
  rcases hi.row with h1 | ⟨c, h1, h2, h3, h4, h5⟩
  · exact .inl h1
  · exact .inr ⟨c, h1, by omega, h3, h4, h5⟩
theorem ItsAt.snoc {h' h3 : Heap} {q : Nat} {ks : List Nat} {W : List OneD} {k : Nat} {o : OneD} (hi : ItsAt h' q ks W) (hk : k = h'.next) (hq : q < h'.next) (hn : h'.next < h3.next) (hs : ∀ j ∈ ks, h3.get j = h'.get j) (hko : h3.get k = some (.cs (oneR o))) : ItsAt h3 q (ks ++ [k]) (W ++ [o]) := by
  have hlen := hi.len
  have hmem : ∀ x ∈ ks, x < h'.next := fun x hx => by
    obtain ⟨j, hj⟩ := List.mem_iff_getElem?.1 hx
    have h1 := (List.getElem?_eq_some_iff.1 hj).1
    exact (hi.it j x _ hj (List.getElem?_eq_getElem (by omega))).2.1
  refine ⟨by simp [hlen], fun j k' o' hj ho => ?_, ?_⟩
  · by_cases hlt : j < ks.length
    · rw [List.getElem?_append_left hlt] at hj
      rw [List.getElem?_append_left (by omega)] at ho
      obtain ⟨h1, h2, h3'⟩ := hi.it j k' o' hj ho
      exact ⟨h1, by omega, (hs k' (List.mem_of_getElem? hj)).trans h3'⟩
    · rw [List.getElem?_append_right (by omega)] at hj ho
      have h0 : j - ks.length = 0 := by
        have := (List.getElem?_eq_some_iff.1 hj).1
        simp at this; omega
      rw [h0] at hj
      rw [← hlen, h0] at ho
      cases hj
      cases ho
      exact ⟨by omega, by omega, hko⟩
  · rw [List.nodup_append]
    refine ⟨hi.nd, by simp, fun a ha b hb => ?_⟩
    rw [List.mem_singleton.1 hb]
    have := hmem a ha
    omega
theorem SyncI.grow0 {h : Heap} {q : Nat} {s : StD} {W : List OneD} {h' h2 : Heap} {k : Nat} {o : OneD} (hi : SyncI h q s W h' [] .nils) (hq : q < h.next) (hk : k = h'.next) (hn : h2.next = h'.next + 1) (hs : ∀ j, j < h'.next → h2.get j = h'.get j) (hko : h2.get k = some (.cs (oneR o))) :
    SyncI h q s (W ++ [o]) (((h2.push (.arr 1 [kR k])).push (.arr 1 [kR k])).set q (.cs (qC (.ms (.g (h2.next + 1)) 1 0 1) s))) [k] (.ms (.g (h2.next + 1)) 1 0 1) := by
  have hkn := hi.keeps.next
  have hgq2 : ((h2.push (.arr 1 [kR k])).push (.arr 1 [kR k])).get q = some (.cs (qC .nils s)) := Heap.gp (by rw [Heap.next_push]; omega) (Heap.gp (by omega) ((hs q (by omega)).trans hi.gq))
  have hget : ∀ j, j < h2.next → j ≠ q → (((h2.push (.arr 1 [kR k])).push (.arr 1 [kR k])).set q (.cs (qC (.ms (.g (h2.next + 1)) 1 0 1) s))).get j = h2.get j := fun j hj hne =>
    (Heap.get_set_ne hne).trans ((Heap.get_push_ne (by rw [Heap.next_push]; omega)).trans (Heap.get_push_ne (by omega)))
  refine ⟨⟨?_, fun n h1 h3 => ?_⟩, fun x hx => ?_, Heap.get_set_self hgq2, .inr ⟨h2.next + 1, rfl, by omega, ?_, ?_, ?_⟩, ?_⟩
  · rw [Heap.next_set, Heap.next_push, Heap.next_push]; omega
  · rw [hget n (by omega) h3, hs n (by omega)]
    exact hi.keeps.same n h1 h3
  · rw [List.mem_singleton.1 hx]; omega
  · rw [Heap.next_set, Heap.next_push, Heap.next_push]; omega
  · intro hm
    have := List.mem_singleton.1 hm
    omega
  · exact Heap.gs (by omega) (Heap.get_push_self _ _)
  · have := hi.its.snoc (h3 := ((h2.push (.arr 1 [kR k])).push (.arr 1 [kR k])).set q (.cs (qC (.ms (.g (h2.next + 1)) 1 0 1) s))) hk (by omega) (by rw [Heap.next_set, Heap.next_push, Heap.next_push]; omega) (fun j hj => by cases hj) ((hget k (by omega) (by omega)).trans hko)
    exact this
theorem SyncI.grow1 {h : Heap} {q c : Nat} {s : StD} {W : List OneD} {h' h2 : Heap} {ks : List Nat} {k : Nat} {o : OneD} (hi : SyncI h q s W h' ks (.ms (.g c) 1 0 ks.length)) (hc : h.next ≤ c) (hc' : c < h'.next) (hck : c ∉ ks) (hq : q < h.next) (hk : k = h'.next) (hn : h2.next = h'.next + 1) (hs : ∀ j, j < h'.next → h2.get j = h'.get j) (hko : h2.get k = some (.cs (oneR o))) :
    SyncI h q s (W ++ [o]) ((((h2.push (.arr 1 [kR k])).remove c).push (.arr 1 (ks.map kR ++ [kR k]))).set q (.cs (qC (.ms (.g (h2.next + 1)) 1 0 (ks.length + 1)) s))) (ks ++ [k]) (.ms (.g (h2.next + 1)) 1 0 (ks.length + 1)) := by
  have hkn := hi.keeps.next
  have hmem : ∀ x ∈ ks, x < h'.next ∧ x ≠ q := fun x hx => by
    obtain ⟨j, hj⟩ := List.mem_iff_getElem?.1 hx
    have h1 := (List.getElem?_eq_some_iff.1 hj).1
    have hlen := hi.its.len
    have := hi.its.it j x _ hj (List.getElem?_eq_getElem (by omega))
    exact ⟨this.2.1, this.1⟩
  have hgq2 : (((h2.push (.arr 1 [kR k])).remove c).push (.arr 1 (ks.map kR ++ [kR k]))).get q = some (.cs (qC (.ms (.g c) 1 0 ks.length) s)) := Heap.gp (by rw [Heap.next_remove, Heap.next_push]; omega) (Heap.gr (by omega) (Heap.gp (by omega) ((hs q (by omega)).trans hi.gq)))
  have hget : ∀ j, j < h2.next → j ≠ q → j ≠ c → ((((h2.push (.arr 1 [kR k])).remove c).push (.arr 1 (ks.map kR ++ [kR k]))).set q (.cs (qC (.ms (.g (h2.next + 1)) 1 0 (ks.length + 1)) s))).get j = h2.get j := fun j hj hne hnc =>
    (Heap.get_set_ne hne).trans ((Heap.get_push_ne (by rw [Heap.next_remove, Heap.next_push]; omega)).trans ((Heap.get_remove_ne hnc).trans (Heap.get_push_ne (by omega))))
  refine ⟨⟨?_, fun n h1 h3 => ?_⟩, fun x hx => ?_, Heap.get_set_self hgq2, .inr ⟨h2.next + 1, by simp, by omega, ?_, ?_, ?_⟩, ?_⟩
  · rw [Heap.next_set, Heap.next_push, Heap.next_remove, Heap.next_push]; omega
  · rw [hget n (by omega) h3 (by omega), hs n (by omega)]
    exact hi.keeps.same n h1 h3
  · rcases List.mem_append.1 hx with hx | hx
    · exact hi.new x hx
    · rw [List.mem_singleton.1 hx]; omega
  · rw [Heap.next_set, Heap.next_push, Heap.next_remove, Heap.next_push]; omega
  · intro hm
    rcases List.mem_append.1 hm with hm | hm
    · have := (hmem _ hm).1
      omega
    · have := List.mem_singleton.1 hm
      omega
  · refine Heap.gs (by omega) ?_
    rw [List.map_append]
    exact Heap.get_push_self ((h2.push (.arr 1 [kR k])).remove c) _
  · refine hi.its.snoc hk (by omega) (by rw [Heap.next_set, Heap.next_push, Heap.next_remove, Heap.next_push]; omega) (fun j hj => ?_) ((hget k (by omega) (by omega) (by omega)).trans hko)
    have := hmem j hj
    exact (hget j (by omega) this.2 (fun e => hck (e ▸ hj))).trans (hs j this.1)
end Go.Eng
