/-
How good: shares, scores.
-/
import Derived.Test.YtllgfkpmblhbmaaGreatFitW2
import Derived.Test.YtllgfkpmblhbmaaGreatFitW
namespace Go.Eng
open Go
def shareD (a c : Int) : Int := if c < 1 ∨ 1000000000 < c then 0 else (100 * minI (maxI a 0) c).tdiv c
theorem clipc {a c : Int} (h : 1 ≤ c) : 0 ≤ minI (maxI a 0) c ∧ minI (maxI a 0) c ≤ c := by unfold minI maxI; split <;> split <;> omega
theorem shareD_in (a c : Int) : 0 ≤ shareD a c ∧ shareD a c ≤ 100 := by
  unfold shareD
  split
  · omega
  · have h := clipc (a := a) (c := c) (by omega)
    rw [Int.tdiv_eq_ediv_of_nonneg (by omega)]
    exact ⟨Int.ediv_nonneg (by omega) (by omega), Int.ediv_le_of_le_mul (by omega) (by omega)⟩
abbrev Acc := Int × Int × Int
def acc1 (pack : Bool) (r t : Int) (z : Acc) : Acc := if r ≤ 0 then z else (z.1 + (if pack then shareD t r else 100 - shareD t r), minI z.2.1 (shareD t r), maxI z.2.2 (shareD t r))
def accD (pack : Bool) (c t : ResD) : Nat → Acc
  | 0 => (0, 100, 0)
  | 1 => acc1 pack c.a t.a (0, 100, 0)
  | 2 => acc1 pack c.b t.b (acc1 pack c.a t.a (0, 100, 0))
  | _ => acc1 pack c.c t.c (acc1 pack c.b t.b (acc1 pack c.a t.a (0, 100, 0)))
/-- So far: what the sum, the least and the greatest share are. -/
structure AccOk (i : Nat) (any : Bool) (z : Acc) : Prop where
  s0 : 0 ≤ z.1
  s1 : z.1 ≤ 100 * i
  l0 : 0 ≤ z.2.1
  l1 : z.2.1 ≤ 100
  h0 : 0 ≤ z.2.2
  h1 : z.2.2 ≤ 100
  le : any = true → z.2.1 ≤ z.2.2
  no : any = false → z.2.1 = 100 ∧ z.2.2 = 0
theorem AccOk.zero : AccOk 0 false (0, 100, 0) := ⟨by decide, by decide, by decide, by decide, by decide, by decide, (fun h => by cases h), fun _ => ⟨rfl, rfl⟩⟩
theorem AccOk.pass {i : Nat} {any : Bool} {z : Acc} (h : AccOk i any z) : AccOk (i + 1) any z := ⟨h.s0, by have := h.s1; omega, h.l0, h.l1, h.h0, h.h1, h.le, h.no⟩
theorem AccOk.take {i : Nat} {any : Bool} {z : Acc} (h : AccOk i any z) (pack : Bool) {x : Int} (h0 : 0 ≤ x) (h1 : x ≤ 100) : AccOk (i + 1) true (z.1 + (if pack then x else 100 - x), minI z.2.1 x, maxI z.2.2 x) := by
  have a1 := h.s0
  have a2 := h.s1
  have a3 := h.l0
  have a4 := h.l1
  have a5 := h.h0
  have a6 := h.h1
  refine ⟨?_, ?_, ?_, ?_, ?_, ?_, fun _ => ?_, fun h => by cases h⟩
  · cases pack <;> simp <;> omega
  · cases pack <;> simp <;> omega
  all_goals (simp only [minI, maxI]; first | (split <;> omega) | (split <;> split <;> omega))
def scoreV (z : Acc) (n : Nat) : Int := z.1 + 100 - maxI (z.2.2 - z.2.1) 0 + maxI (10 - n) 0
theorem scoreV_in {any : Bool} {z : Acc} (h : AccOk 3 any z) (n : Nat) : 0 ≤ scoreV z n ∧ scoreV z n ≤ 410 := by
  have a1 := h.s0
  have a2 := h.s1
  have a3 := h.l0
  have a6 := h.h1
  unfold scoreV maxI
  split <;> split <;> omega
theorem accD_ok (pack : Bool) (c t : ResD) : ∀ i, i ≤ 3 → ∃ any, AccOk i any (accD pack c t i) := by
  have st : ∀ {i : Nat} {any : Bool} {z : Acc} (r t : Int), AccOk i any z → ∃ any', AccOk (i + 1) any' (acc1 pack r t z) := fun r t h => by
    unfold acc1
    split
    · exact ⟨_, h.pass⟩
    · exact ⟨_, h.take pack (shareD_in t r).1 (shareD_in t r).2⟩
  have h0 : AccOk 0 false (accD pack c t 0) := .zero
  obtain ⟨a1, h1⟩ := st c.a t.a h0
  obtain ⟨a2, h2⟩ := st c.b t.b h1
  obtain ⟨a3, h3⟩ := st c.c t.c h2
  intro i hi
  match i, hi with
  | 0, _ => exact ⟨_, h0⟩
  | 1, _ => exact ⟨_, h1⟩
  | 2, _ => exact ⟨_, h2⟩
  | 3, _ => exact ⟨_, h3⟩
def scoreD (s : StD) (p : PodD) (node : Str) (pack : Bool) : Int :=
  if feasD s p node then
    match s.nodes.find? (fun n => n.name == node), usedD s node with
    | some n, some u => match addD u p.req with
      | some t => scoreV (accD pack n.cap t 3) (onD s node).length
      | none => -1
    | _, _ => -1
  else -1
theorem feas_parts {s : StD} {p : PodD} {node : Str} (h : feasD s p node = true) : ∃ n u t, s.nodes.find? (fun n => n.name == node) = some n ∧ usedD s node = some u ∧ addD u p.req = some t := by
  unfold feasD at h
  cases hf : s.nodes.find? (fun n => n.name == node) with
  | none => rw [hf] at h; cases h
  | some n =>
    rw [hf] at h
    have hn : n.name = node := by simpa using List.find?_some hf
    dsimp only at h
    simp only [eachD, Bool.and_eq_true] at h
    have h1 := h.2.1
    unfold roomD at h1
    rw [hn] at h1
    cases hu : usedD s node with
    | none => rw [hu] at h1; cases h1
    | some u =>
      rw [hu] at h1
      dsimp only at h1
      cases ht : addD u p.req with
      | none => rw [ht] at h1; cases h1
      | some t => exact ⟨n, u, t, rfl, rfl, ht⟩
theorem score_no {s : StD} {p : PodD} {node : Str} {pack : Bool} (h : feasD s p node = false) : scoreD s p node pack = -1 := by
  unfold scoreD
  rw [h]
  rfl
theorem score_in {s : StD} {p : PodD} {node : Str} {pack : Bool} (h : feasD s p node = true) : 0 ≤ scoreD s p node pack ∧ scoreD s p node pack ≤ 410 := by
  obtain ⟨n, u, t, h1, h2, h3⟩ := feas_parts h
  unfold scoreD
  rw [if_pos h, h1, h2]
  dsimp only
  rw [h3]
  obtain ⟨any, hz⟩ := accD_ok pack n.cap t 3 (Nat.le_refl _)
  exact scoreV_in hz _
section
variable {P : Program} (hG : FnsOk P AF.fns.get)
include hG
set_option maxHeartbeats 1000000 in
theorem share_all (a c : Int) : Pure P 120 [.i .i64 a, .i .i64 c] (· = .i .i64 (shareD a c)) := by
  refine pure_fn (hG _ AF.f120 rfl) rfl ?_
  by_cases h1 : c < 1
  · ((conv => whnf); repeat ((first | refine yf rfl ?_ | refine yt rfl ?_ | refine yo rfl ?_ | refine yc rfl ?_ | refine ys rfl ?_ | refine ye rfl ?_ | refine yn rfl ?_ | refine zw ?_ | refine zdt ?_ | refine zdf ?_ | refine znt ?_ | refine znf ?_ | refine zcd ?_ | refine zci ?_ | refine zc3 ?_) <;> (conv => whnf)))
    exact pure_free rfl (by rw [shareD, if_pos (.inl h1)])
  by_cases h2 : 1000000000 < c
  · ((conv => whnf); repeat ((first | refine yf rfl ?_ | refine yt rfl ?_ | refine yo rfl ?_ | refine yc rfl ?_ | refine ys rfl ?_ | refine ye rfl ?_ | refine yn rfl ?_ | refine zw ?_ | refine zdt ?_ | refine zdf ?_ | refine znt ?_ | refine znf ?_ | refine zcd ?_ | refine zci ?_ | refine zc3 ?_) <;> (conv => whnf)))
    exact pure_free rfl (by rw [shareD, if_pos (.inr h2)])
  have hm := clipc (a := a) (c := c) (by omega)
  have hq := shareD_in a c
  have hs : shareD a c = (100 * minI (maxI a 0) c).tdiv c := by rw [shareD, if_neg (by omega)]
  rw [hs] at hq ⊢
  obtain ⟨m, hmd⟩ : ∃ m, minI (maxI a 0) c = m := ⟨_, rfl⟩
  rw [hmd] at hm hq ⊢
  ((conv => whnf); repeat ((first | refine SOpt.of (mx2 (z := maxI a 0) rfl) ?_ | refine SOpt.of (mn2 (z := m) hmd) ?_ | refine SChk.mk (by simp; omega) ?_ | refine SWrap.w64 (by exact Int.le_trans (by decide) hq.1) (by exact Int.le_trans hq.2 (by decide)) ?_ | refine yf rfl ?_ | refine yt rfl ?_ | refine yo rfl ?_ | refine yc rfl ?_ | refine ys rfl ?_ | refine ye rfl ?_ | refine yn rfl ?_ | refine zw ?_ | refine zdt ?_ | refine zdf ?_ | refine znt ?_ | refine znf ?_ | refine zcd ?_ | refine zci ?_ | refine zc3 ?_) <;> (conv => whnf)))
  exact pure_free rfl rfl
end
end Go.Eng
