/-
Two pods more, on a node that is new: whether it is whole.
-/
import Derived.Test.YtdobfbnfaekafaaGreatWiK
import Derived.Test.YtdobfbnfaekafaaGreatWiC
set_option linter.unusedVariables false
set_option linter.unusedSimpArgs false
namespace Go.Eng
open Go
theorem putL_cut (l : List PodD) (p : PodD) : ∃ A B, putL l p = A ++ p :: B ∧ (l = A ++ B ∨ ∃ x, x.name = p.name ∧ l = A ++ x :: B) := by
  cases h : l.findIdx? (fun q => q.name == p.name) with
  | none =>
    obtain ⟨A, B, h1, h2⟩ := putL_fresh h
    exact ⟨A, B, h2, .inl h1⟩
  | some j =>
    have hj := h
    rw [List.findIdx?_eq_some_iff_getElem] at hj
    obtain ⟨h1, h2, _⟩ := hj
    refine ⟨l.take j, l.drop (j + 1), ?_, .inr ⟨l[j], by simpa using h2, ?_⟩⟩
    · unfold putL
      rw [h]
      dsimp only
      rw [List.set_eq_take_append_cons_drop, if_pos h1]
    · rw [← List.drop_eq_getElem_cons h1, List.take_append_drop]
theorem put_filter {l : List PodD} {p : PodD} {f : PodD → Bool} (h : ∀ x ∈ l, x.name = p.name → f x = false) : ∃ X Y, l.filter f = X ++ Y ∧ (putL l p).filter f = X ++ ([p].filter f ++ Y) := by
  obtain ⟨A, B, h1, h2⟩ := putL_cut l p
  refine ⟨A.filter f, B.filter f, ?_, ?_⟩
  · rcases h2 with h2 | ⟨x, hx, h2⟩
    · rw [h2, List.filter_append]
    · rw [h2, List.filter_append, List.filter_cons_of_neg]
      rw [h x (by rw [h2]; simp) hx]; decide
  · rw [h1, List.filter_append]
    congr 1
    exact List.filter_append (l₁ := [p]) (l₂ := B)
def exS : Str := [101, 120, 116, 114, 97]
def nwS : Str := [110, 111, 119, 104, 101, 114, 101]
def exN : NodeD := ⟨exS, ⟨5, 5, 5⟩, [], []⟩
def exP (name : Str) (uid d port : Int) (node : Str) : PodD := ⟨name, uid, 0, ⟨d, 0, 0⟩, [port], [], [], [], [], [], 0, [], node, 1⟩
theorem two_filter {l : List PodD} {a b : PodD} {f : PodD → Bool} (h : ∀ x ∈ l, f x = false) (ha : f a = true) (hab : a.name ≠ b.name) : ((f b = true) → ((putL (putL l a) b).filter f = [a, b] ∨ (putL (putL l a) b).filter f = [b, a])) ∧ ((f b = false) → (putL (putL l a) b).filter f = [a]) := by
  obtain ⟨X, Y, h1, h2⟩ := put_filter (l := l) (p := a) (f := f) fun x hx _ => h x hx
  have hl : l.filter f = [] := List.filter_eq_nil_iff.2 fun x hx => by rw [h x hx]; decide
  rw [hl] at h1
  obtain ⟨rfl, rfl⟩ := List.append_eq_nil_iff.1 h1.symm
  rw [List.filter_cons_of_pos ha] at h2
  have h2 : (putL l a).filter f = [a] := h2
  obtain ⟨X, Y, h3, h4⟩ := put_filter (l := putL l a) (p := b) (f := f) fun x hx hn => by
    rcases putL_mem hx with h5 | h5
    · exact h x h5
    · rw [h5] at hn; exact absurd hn hab
  rw [h2] at h3
  have hXY : (X = [a] ∧ Y = []) ∨ (X = [] ∧ Y = [a]) := by
    cases X with
    | nil => exact .inr ⟨rfl, h3.symm⟩
    | cons x r =>
      rw [List.cons_append] at h3
      obtain ⟨rfl, h6⟩ := List.cons.inj h3
      obtain ⟨rfl, rfl⟩ := List.append_eq_nil_iff.1 h6.symm
      exact .inl ⟨rfl, rfl⟩
  constructor
  · intro hb
    rw [List.filter_cons_of_pos hb] at h4
    rcases hXY with ⟨rfl, rfl⟩ | ⟨rfl, rfl⟩
    · exact .inl h4
    · exact .inr h4
  · intro hb
    rw [List.filter_cons_of_neg (by rw [hb]; decide)] at h4
    rcases hXY with ⟨rfl, rfl⟩ | ⟨rfl, rfl⟩
    · exact h4
    · exact h4
def okN (s : StD) (n : NodeD) : Bool :=
  match usedD s n.name with
  | some u => fitsD u n.cap && noClash (onD s n.name)
  | none => false
theorem wholeD_eq (s : StD) : wholeD s = (s.nodes.all (okN s) && s.pods.all fun p => p.node == [] || (s.nodes.find? fun n => n.name == p.node).isSome) := rfl
theorem onD_filter (s : StD) (x : Str) : onD s x = s.pods.filter fun p => p.node == x && !(x == []) := rfl
/-- The program's own question: whole, with two pods more. -/
theorem two_whole {N : List NodeD} {l : List PodD} (hN : ∀ n ∈ N, ResMay n.cap ∧ n.name ≠ exS ∧ n.name ≠ nwS) (hl : ∀ q ∈ l, q.node = [] ∧ ResMay q.req) (hlen : l.length ≤ 900) (na nb : Str) (hab : na ≠ nb) (ua ub d port : Int) (node : Str)
    (hd : d = 2 ∨ d = 3) (hnode : node = exS ∨ node = nwS) :
    wholeD ⟨N ++ [exN], putL (putL l (exP na ua 3 7 exS)) (exP nb ub d port node)⟩ = (decide (node = exS) && (decide (d = 2) && !decide (port = 7))) := by
  obtain ⟨a, ha⟩ : ∃ a, a = exP na ua 3 7 exS := ⟨_, rfl⟩
  obtain ⟨b, hb⟩ : ∃ b, b = exP nb ub d port node := ⟨_, rfl⟩
  rw [← ha, ← hb]
  have han : a.name ≠ b.name := by rw [ha, hb]; exact hab
  have hmem : ∀ q ∈ putL (putL l a) b, q ∈ l ∨ q = a ∨ q = b := fun q hq => by
    rcases putL_mem hq with h | h
    · rcases putL_mem h with h | h
      · exact .inl h
      · exact .inr (.inl h)
    · exact .inr (.inr h)
  have hmay : MayL (putL (putL l a) b) := fun q hq => by
    rcases hmem q hq with h | rfl | rfl
    · exact (hl q h).2
    · rw [ha]
      exact ⟨show (0 : Int) ≤ 3 ∧ (3 : Int) ≤ 1000000000 by decide, show (0 : Int) ≤ 0 ∧ (0 : Int) ≤ 1000000000 by decide, show (0 : Int) ≤ 0 ∧ (0 : Int) ≤ 1000000000 by decide⟩
    · rw [hb]
      exact ⟨show 0 ≤ d ∧ d ≤ 1000000000 by omega, show (0 : Int) ≤ 0 ∧ (0 : Int) ≤ 1000000000 by decide, show (0 : Int) ≤ 0 ∧ (0 : Int) ≤ 1000000000 by decide⟩
  have hplen : (putL (putL l a) b).length ≤ 1000 := by
    have h1 := (putL_len l a).1
    have h2 := (putL_len (putL l a) b).1
    omega
  have hnode' : ∀ (x : Str), x ≠ [] → ∀ q ∈ l, (q.node == x && !(x == [])) = false := fun x hx q hq => by
    rw [(hl q hq).1]
    cases x with
    | nil => exact absurd rfl hx
    | cons _ _ => rfl
  have hbn : b.node = node := by rw [hb]; rfl
  have hanode : a.node = exS := by rw [ha]; rfl
  have hex : exS ≠ [] := by decide
  have hnx : node ≠ [] := by rcases hnode with rfl | rfl <;> decide
  rw [wholeD_eq]
  dsimp only
  have hold : N.all (okN ⟨N ++ [exN], putL (putL l a) b⟩) = true := by
    rw [List.all_eq_true]
    intro n hn
    obtain ⟨h1, h2, h3⟩ := hN n hn
    have hon : onD ⟨N ++ [exN], putL (putL l a) b⟩ n.name = [] := by
      rw [onD_filter, List.filter_eq_nil_iff]
      intro q hq
      rcases hmem q hq with h | rfl | rfl
      · rw [(hl q h).1]
        cases n.name <;> simp
      · rw [hanode]; simp [Ne.symm h2]
      · rw [hbn]
        rcases hnode with rfl | rfl
        · simp [Ne.symm h2]
        · simp [Ne.symm h3]
    unfold okN
    rw [used_may hmay hplen, hon]
    have ha := h1.a; have hb := h1.b; have hc := h1.c
    show (fitsD ⟨0, 0, 0⟩ n.cap && noClash []) = true
    simp only [fitsD, Bool.and_eq_true, decide_eq_true_eq]
    exact ⟨by omega, rfl⟩
  have hfindex : ((N ++ [exN]).find? fun n => n.name == exS).isSome = true := by
    rw [List.find?_append, Option.isSome_or]
    have : ([exN].find? fun n => n.name == exS).isSome = true := rfl
    rw [this, Bool.or_true]
  have hfindnw : ((N ++ [exN]).find? fun n => n.name == nwS) = none := by
    rw [List.find?_eq_none]
    intro n hn
    rcases List.mem_append.1 hn with h | h
    · simpa using (hN n h).2.2
    · rw [List.mem_singleton.1 h]; decide
  have hbin : b ∈ putL (putL l a) b := by
    obtain ⟨A, B, h, _⟩ := putL_cut (putL l a) b
    rw [h]; simp
  have hpods : (putL (putL l a) b).all (fun p => p.node == [] || ((N ++ [exN]).find? fun n => n.name == p.node).isSome) = decide (node = exS) := by
    rcases hnode with rfl | rfl
    · rw [decide_eq_true rfl, List.all_eq_true]
      intro q hq
      rcases hmem q hq with h | rfl | rfl
      · rw [(hl q h).1]; rfl
      · rw [hanode, hfindex]; simp
      · rw [hbn, hfindex]; simp
    · rw [decide_eq_false (by decide), List.all_eq_false]
      refine ⟨b, hbin, ?_⟩
      rw [hbn, hfindnw]
      decide
  rw [hpods, List.all_append, hold]
  obtain ⟨t1, t2⟩ := two_filter (l := l) (a := a) (b := b) (f := fun p => p.node == exS && !(exS == [])) (hnode' exS hex) (by rw [hanode]; decide) han
  rcases hnode with rfl | rfl
  · have hbt : (b.node == exS && !(exS == [])) = true := by rw [hbn]; decide
    have hon := t1 hbt
    rw [← onD_filter ⟨N ++ [exN], putL (putL l a) b⟩ exS] at hon
    have hsum : sumR (onD ⟨N ++ [exN], putL (putL l a) b⟩ exS) = ⟨3 + d, 0, 0⟩ := by
      rcases hon with h | h
      · rw [h, ha, hb]; simp [sumR, exP]
      · rw [h, ha, hb]
        simp only [sumR, exP]
        exact ext3 (by omega) (by omega) (by omega)
    have hcl : noClash (onD ⟨N ++ [exN], putL (putL l a) b⟩ exS) = !decide (port = 7) := by
      rw [Bool.eq_iff_iff, noClash_iff]
      rcases hon with h | h
      · rw [h, ha, hb]
        simp [exP]
        exact ⟨fun h e => h e.symm, fun h e => h e.symm⟩
      · rw [h, ha, hb]
        simp [exP]
    have hone : [exN].all (okN ⟨N ++ [exN], putL (putL l a) b⟩) = (decide (d = 2) && !decide (port = 7)) := by
      rw [List.all_cons, List.all_nil, Bool.and_true]
      unfold okN
      have hen : exN.name = exS := rfl
      rw [hen, used_may hmay hplen, hsum]
      dsimp only
      rw [hcl]
      congr 1
      rcases hd with rfl | rfl <;> decide
    rw [hone]
    simp
  · rw [decide_eq_false (by decide)]
    simp
end Go.Eng
