/-
Heaps: what is found behind a push, a turn, a removal.
-/
import Derived.Test.YtfobkjdmohaakaaGreatEngSym
namespace Go.Eng

theorem Heap.find_upd_ne {n m : Nat} (h : m ≠ n) (x : Obj) : ∀ l : List (Nat × Obj), Heap.find (Heap.upd l n x) m = Heap.find l m
  | [] => rfl
  | (k, o) :: r => by
    simp only [Heap.upd]
    by_cases hk : k = n
    · rw [if_pos hk]
      simp only [Heap.find]
      rw [if_neg (by rw [hk]; exact fun e => h e.symm), if_neg (by rw [hk]; exact fun e => h e.symm)]
    · rw [if_neg hk]
      simp only [Heap.find]
      rw [Heap.find_upd_ne h x r]
theorem Heap.find_upd_self {n : Nat} (x : Obj) : ∀ {l : List (Nat × Obj)} {o : Obj}, Heap.find l n = some o → Heap.find (Heap.upd l n x) n = some x
  | [], o, h => by simp [Heap.find] at h
  | (k, o') :: r, o, h => by
    simp only [Heap.upd]
    by_cases hk : k = n
    · rw [if_pos hk]; simp [Heap.find, hk]
    · rw [if_neg hk]
      simp only [Heap.find, if_neg hk] at h ⊢
      exact Heap.find_upd_self x h
theorem Heap.find_del_ne {n m : Nat} (h : m ≠ n) : ∀ l : List (Nat × Obj), Heap.find (Heap.del l n) m = Heap.find l m
  | [] => rfl
  | (k, o) :: r => by
    simp only [Heap.del]
    by_cases hk : k = n
    · rw [if_pos hk, Heap.find_del_ne h r]
      simp only [Heap.find]
      rw [if_neg (by rw [hk]; exact fun e => h e.symm)]
    · rw [if_neg hk]
      simp only [Heap.find]
      rw [Heap.find_del_ne h r]

theorem Heap.get_push_self (h : Heap) (o : Obj) : (h.push o).get h.next = some o := by simp [Heap.push, Heap.get, Heap.find]
theorem Heap.get_push_ne {h : Heap} {o : Obj} {n : Nat} (hn : n ≠ h.next) : (h.push o).get n = h.get n := by
  simp only [Heap.push, Heap.get, Heap.find]
  rw [if_neg fun e => hn e.symm]
theorem Heap.get_set_self {h : Heap} {o o' : Obj} {n : Nat} (hn : h.get n = some o') : (h.set n o).get n = some o := Heap.find_upd_self o hn
theorem Heap.get_set_ne {h : Heap} {o : Obj} {n m : Nat} (hn : m ≠ n) : (h.set n o).get m = h.get m := Heap.find_upd_ne hn o _
theorem Heap.get_remove_ne {h : Heap} {n m : Nat} (hn : m ≠ n) : (h.remove n).get m = h.get m := Heap.find_del_ne hn _
theorem Heap.next_push (h : Heap) (o : Obj) : (h.push o).next = h.next + 1 := rfl
theorem Heap.next_set (h : Heap) (n : Nat) (o : Obj) : (h.set n o).next = h.next := rfl
theorem Heap.next_remove (h : Heap) (n : Nat) : (h.remove n).next = h.next := rfl

theorem Heap.gp {h : Heap} {o : Obj} {n : Nat} {x : Obj} (hn : n ≠ h.next) (hx : h.get n = some x) : (h.push o).get n = some x := by rw [Heap.get_push_ne hn]; exact hx
theorem Heap.gs {h : Heap} {o : Obj} {n m : Nat} {x : Obj} (hn : m ≠ n) (hx : h.get m = some x) : (h.set n o).get m = some x := by rw [Heap.get_set_ne hn]; exact hx
theorem Heap.gr {h : Heap} {n m : Nat} {x : Obj} (hn : m ≠ n) (hx : h.get m = some x) : (h.remove n).get m = some x := by rw [Heap.get_remove_ne hn]; exact hx

/-- What was there below 'n', but for one object, is there as it was; no number is taken twice. -/
structure Heap.Keeps (but : Nat → Prop) (h h' : Heap) : Prop where
  next : h.next ≤ h'.next
  same : ∀ n, n < h.next → ¬ but n → h'.get n = h.get n
theorem Heap.Keeps.refl (b : Nat → Prop) (h : Heap) : Heap.Keeps b h h := ⟨Nat.le_refl _, fun _ _ _ => rfl⟩
theorem Heap.Keeps.trans {b : Nat → Prop} {h1 h2 h3 : Heap} (a : Heap.Keeps b h1 h2) (c : Heap.Keeps b h2 h3) : Heap.Keeps b h1 h3 :=
  ⟨Nat.le_trans a.next c.next, fun n hn hb => (c.same n (Nat.lt_of_lt_of_le hn a.next) hb).trans (a.same n hn hb)⟩
theorem Heap.Keeps.push {b : Nat → Prop} {h h' : Heap} (a : Heap.Keeps b h h') (o : Obj) : Heap.Keeps b h (h'.push o) :=
  ⟨Nat.le_succ_of_le a.next, fun n hn hb => (Heap.get_push_ne (by have := a.next; omega)).trans (a.same n hn hb)⟩
theorem Heap.Keeps.set {b : Nat → Prop} {h h' : Heap} (a : Heap.Keeps b h h') {k : Nat} (hk : b k ∨ h.next ≤ k) (o : Obj) : Heap.Keeps b h (h'.set k o) :=
  ⟨a.next, fun n hn hb => (Heap.get_set_ne (by rintro rfl; rcases hk with hk | hk; exact hb hk; omega)).trans (a.same n hn hb)⟩
theorem Heap.Keeps.remove {b : Nat → Prop} {h h' : Heap} (a : Heap.Keeps b h h') {k : Nat} (hk : b k ∨ h.next ≤ k) : Heap.Keeps b h (h'.remove k) :=
  ⟨a.next, fun n hn hb => (Heap.get_remove_ne (by rintro rfl; rcases hk with hk | hk; exact hb hk; omega)).trans (a.same n hn hb)⟩
theorem Heap.Keeps.mono {b b' : Nat → Prop} {h h' : Heap} (a : Heap.Keeps b h h') (hb : ∀ n, n < h.next → b n → b' n) : Heap.Keeps b' h h' :=
  ⟨a.next, fun n hn hn' => a.same n hn fun h => hn' (hb n hn h)⟩
end Go.Eng
