/-
Who waits: by priority, then by who was first.
-/
import Derived.Test.YtllgfkpmblhbmaaGreatWiS
set_option linter.unusedVariables false
set_option linter.unusedSimpArgs false
namespace Go.Eng
open Go
def cmpI (x y : Int) : Int := if x < y then -1 else if y < x then 1 else 0
section
variable {P : Program} (hG : FnsOk P AF.fns.get)
include hG
theorem cmpInt_ok (x y : Int) : Pure P 44 [.i .i64 x, .i .i64 y] (· = .i .i64 (cmpI x y)) := by
  refine pure_fn (hG _ AF.f44 rfl) rfl ?_
  ((conv => whnf); repeat' ((first | refine SCall.app (fn_sf (hG _ _ rfl) rfl) ?_ | refine yf rfl ?_ | refine yt rfl ?_ | refine yo rfl ?_ | refine yc rfl ?_ | refine ys rfl ?_ | refine ye rfl ?_ | refine yn rfl ?_ | refine zw ?_ | refine zdt ?_ | refine zdf ?_ | refine znt ?_ | refine znf ?_ | refine zcd ?_ | refine zci ?_ | refine zc3 ?_ | refine SLoopZ.un rfl ?_ | refine SIf.ds (fun _ => ?_) (fun _ => ?_) | refine SIf.ns (fun _ => ?_) (fun _ => ?_) | refine SIf.mk (fun _ => ?_) (fun _ => ?_) | (intro r hr; cases r)) <;> (conv => whnf)))
  all_goals (refine pure_free rfl ?_)
  all_goals (unfold cmpI; simp_all)
  all_goals omega
set_option maxHeartbeats 4000000 in
theorem stablec_pod (c : PodD → PodD → Int) (g : Nat) (hg : ∀ a b : PodD, Pure P g [.agg (podR a), .agg (podR b)] (· = .i .i64 (c a b))) (l : List PodD) (hl : l.length ≤ 19) {r : Nat} {h : Heap} (hr : h.get r = some (.arr 16 (l.map podR))) {K : V → Heap → Prop}
    (hK : K (.tup []) (h.set r (.arr 16 ((isortD (fun a b => decide (c a b < 0)) l).map podR)))) :
    ACall P 94 [.ms (.g r) 16 0 l.length, .i .i64 l.length, .fn g [] []] h K := by
  refine fn_sp (hG _ AF.f94 rfl) rfl ?_
  ((conv => whnf); repeat ((first | refine SLoop.un ?_ | refine SIf.df (by omega) ?_ | refine SCall.app (isortm_pod hG c g hg l (by omega) hr) ?_ | refine SIf.ff rfl ?_ | refine SIf.tt rfl ?_ | refine SOpt.of rfl ?_ | refine SChk.mk rfl ?_ | refine SSame.mk rfl ?_ | refine SEx.of rfl ?_) <;> (conv => whnf)))
  exact hK
set_option maxHeartbeats 4000000 in
theorem stable_pod (c : PodD → PodD → Int) (g : Nat) (hg : ∀ a b : PodD, Pure P g [.agg (podR a), .agg (podR b)] (· = .i .i64 (c a b))) (l : List PodD) (hl : l.length ≤ 19) {r : Nat} {h : Heap} (hr : h.get r = some (.arr 16 (l.map podR))) {K : V → Heap → Prop}
    (hK : K (.tup []) (h.set r (.arr 16 ((isortD (fun a b => decide (c a b < 0)) l).map podR)))) :
    ACall P 42 [.ms (.g r) 16 0 l.length, .fn g [] []] h K := by
  refine fn_sp (hG _ AF.f42 rfl) rfl ?_
  ((conv => whnf); repeat ((first | refine SCall.app (stablec_pod hG c g hg l hl hr) ?_ | refine SIf.ff rfl ?_ | refine SIf.tt rfl ?_ | refine SOpt.of rfl ?_ | refine SChk.mk rfl ?_ | refine SSame.mk rfl ?_ | refine SEx.of rfl ?_) <;> (conv => whnf)))
  exact hK
end
end Go.Eng
/-
The sort by insertion: nothing is lost, and it is sorted.
-/
namespace Go.Eng
open Go
section plain
variable {α : Type} {lt : α → α → Bool}
theorem dropWhile_head {f : α → Bool} : ∀ {l : List α} {y : α} {r : List α}, l.dropWhile f = y :: r → f y = false
  | [], _, _, h => by simp at h
  | a :: l, y, r, h => by
    cases hf : f a with
    | true =>
      rw [List.dropWhile_cons, if_pos hf] at h
      exact dropWhile_head h
    | false =>
      rw [List.dropWhile_cons, if_neg (by simp [hf])] at h
      cases h
      exact hf
theorem mem_takeWhile {f : α → Bool} : ∀ {l : List α} {y : α}, y ∈ l.takeWhile f → f y = true
  | [], _, h => by simp at h
  | a :: l, y, h => by
    cases hf : f a with
    | true =>
      rw [List.takeWhile_cons, if_pos hf] at h
      cases h with
      | head => exact hf
      | tail _ h => exact mem_takeWhile h
    | false =>
      rw [List.takeWhile_cons, if_neg (by simp [hf])] at h
      cases h
theorem insD_cut (pre : List α) (x : α) : ∃ A B, pre = A ++ B ∧ insD lt pre x = A ++ x :: B ∧ (∀ b ∈ B, lt x b = true) ∧ (A = [] ∨ ∃ A' y, A = A' ++ [y] ∧ lt x y = false) := by
  have h0 := List.takeWhile_append_dropWhile (p := lt x) (l := pre.reverse)
  obtain ⟨tw, htw⟩ : ∃ tw, tw = pre.reverse.takeWhile (lt x) := ⟨_, rfl⟩
  obtain ⟨dw, hdw⟩ : ∃ dw, dw = pre.reverse.dropWhile (lt x) := ⟨_, rfl⟩
  rw [← htw, ← hdw] at h0
  have hp : pre = dw.reverse ++ tw.reverse := by
    have := congrArg List.reverse h0
    rw [List.reverse_append, List.reverse_reverse] at this
    exact this.symm
  have hk : insIx lt pre x = dw.reverse.length := by
    unfold insIx
    rw [← htw, hp]
    simp
  refine ⟨dw.reverse, tw.reverse, hp, ?_, fun b hb => ?_, ?_⟩
  · unfold insD rowsAt
    rw [hk, hp]
    simp
  · rw [List.mem_reverse, htw] at hb
    exact mem_takeWhile hb
  · cases hd : dw with
    | nil => exact .inl rfl
    | cons y r =>
      refine .inr ⟨r.reverse, y, by simp, ?_⟩
      rw [hdw] at hd
      exact dropWhile_head hd
theorem insD_perm (pre : List α) (x : α) : (insD lt pre x).Perm (x :: pre) := by
  obtain ⟨A, B, h1, h2, _⟩ := insD_cut (lt := lt) pre x
  rw [h2, h1]
  exact List.perm_middle
theorem foldl_perm : ∀ (l acc : List α), (l.foldl (insD lt) acc).Perm (acc ++ l)
  | [], acc => by simp
  | x :: r, acc => by
    rw [List.foldl_cons]
    refine (foldl_perm r _).trans ?_
    refine ((insD_perm acc x).append_right r).trans ?_
    exact (List.perm_middle (l₁ := acc) (l₂ := r)).symm
theorem isortD_perm (l : List α) : (isortD lt l).Perm l := by
  have := foldl_perm (lt := lt) l []
  simpa [isortD] using this
end plain
end Go.Eng
