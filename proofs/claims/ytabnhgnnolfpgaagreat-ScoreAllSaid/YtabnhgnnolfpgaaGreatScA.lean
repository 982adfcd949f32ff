/-
How good: shares, scores.
-/
import Derived.Test.YtabnhgnnolfpgaaGreatFitW2
import Derived.Test.YtabnhgnnolfpgaaGreatWr1
import Derived.Test.YtabnhgnnolfpgaaGreatArgX
namespace Go.Eng
open Go
def shareD (a c : Int) : Int := if c < 1 ∨ 1000000000 < c then 0 else (100 * minI (maxI a 0) c).tdiv c
theorem clipc {a c : Int} (h : 1 ≤ c) : 0 ≤ minI (maxI a 0) c ∧ minI (maxI a 0) c ≤ c := by unfold minI maxI; split <;> split <;> omega
theorem shareD_in (a c : Int) : 0 ≤ shareD a c ∧ shareD a c ≤ 100 := by
  unfold shareD
  split
  · omega
  · have h := clipc (a := a) (c := c) (by omega)
    rw [Int.tdiv_eq_ediv_of_nonneg (by omega)]
    exact ⟨Int.ediv_nonneg (by omega) (by omega), Int.ediv_le_of_le_mul (by omega) (by omega)⟩
abbrev Acc := Int × Int × Int
def acc1 (pack : Bool) (r t : Int) (z : Acc) : Acc := if r ≤ 0 then z else (z.1 + (if pack then shareD t r else 100 - shareD t r), minI z.2.1 (shareD t r), maxI z.2.2 (shareD t r))
def accD (pack : Bool) (c t : ResD) : Nat → Acc
  | 0 => (0, 100, 0)
  | 1 => acc1 pack c.a t.a (0, 100, 0)
  | 2 => acc1 pack c.b t.b (acc1 pack c.a t.a (0, 100, 0))
  | _ => acc1 pack c.c t.c (acc1 pack c.b t.b (acc1 pack c.a t.a (0, 100, 0)))
/-- So far: what the sum, the least and the greatest share are. -/
structure AccOk (i : Nat) (any : Bool) (z : Acc) : Prop where
  s0 : 0 ≤ z.1
  s1 : z.1 ≤ 100 * i
  l0 : 0 ≤ z.2.1
  l1 : z.2.1 ≤ 100
  h0 : 0 ≤ z.2.2
  h1 : z.2.2 ≤ 100
  le : any = true → z.2.1 ≤ z.2.2
  no : any = false → z.2.1 = 100 ∧ z.2.2 = 0
theorem AccOk.zero : AccOk 0 false (0, 100, 0) := ⟨by decide, by decide, by decide, by decide, by decide, by decide, (fun h => by cases h), fun _ => ⟨rfl, rfl⟩⟩
theorem AccOk.pass {i : Nat} {any : Bool} {z : Acc} (h : AccOk i any z) : AccOk (i + 1) any z := ⟨h.s0, by have := h.s1; omega, h.l0, h.l1, h.h0, h.h1, h.le, h.no⟩
theorem AccOk.take {i : Nat} {any : Bool} {z : Acc} (h : AccOk i any z) (pack : Bool) {x : Int} (h0 : 0 ≤ x) (h1 : x ≤ 100) : AccOk (i + 1) true (z.1 + (if pack then x else 100 - x), minI z.2.1 x, maxI z.2.2 x) := by
  have a1 := h.s0
  have a2 := h.s1
  have a3 := h.l0
  have a4 := h.l1
  have a5 := h.h0
  have a6 := h.h1
  refine ⟨?_, ?_, ?_, ?_, ?_, ?_, fun _ => ?_, fun h => by cases h⟩
  · cases pack <;> simp <;> omega
  · cases pack <;> simp <;> omega
  all_goals (simp only [minI, maxI]; first | (split <;> omega) | (split <;> split <;> omega))
def scoreV (z : Acc) (n : Nat) : Int := z.1 + 100 - maxI (z.2.2 - z.2.1) 0 + maxI (10 - n) 0
theorem scoreV_in {any : Bool} {z : Acc} (h : AccOk 3 any z) (n : Nat) : 0 ≤ scoreV z n ∧ scoreV z n ≤ 410 := by
  have a1 := h.s0
  have a2 := h.s1
  have a3 := h.l0
  have a6 := h.h1
  unfold scoreV maxI
  split <;> split <;> omega
theorem accD_ok (pack : Bool) (c t : ResD) : ∀ i, i ≤ 3 → ∃ any, AccOk i any (accD pack c t i) := by
  have st : ∀ {i : Nat} {any : Bool} {z : Acc} (r t : Int), AccOk i any z → ∃ any', AccOk (i + 1) any' (acc1 pack r t z) := fun r t h => by
    unfold acc1
    split
    · exact ⟨_, h.pass⟩
    · exact ⟨_, h.take pack (shareD_in t r).1 (shareD_in t r).2⟩
  have h0 : AccOk 0 false (accD pack c t 0) := .zero
  obtain ⟨a1, h1⟩ := st c.a t.a h0
  obtain ⟨a2, h2⟩ := st c.b t.b h1
  obtain ⟨a3, h3⟩ := st c.c t.c h2
  intro i hi
  match i, hi with
  | 0, _ => exact ⟨_, h0⟩
  | 1, _ => exact ⟨_, h1⟩
  | 2, _ => exact ⟨_, h2⟩
  | 3, _ => exact ⟨_, h3⟩
def scoreD (s : StD) (p : PodD) (node : Str) (pack : Bool) : Int :=
  if feasD s p node then
    match s.nodes.find? (fun n => n.name == node), usedD s node with
    | some n, some u => match addD u p.req with
      | some t => scoreV (accD pack n.cap t 3) (onD s node).length
      | none => -1
    | _, _ => -1
  else -1
theorem feas_parts {s : StD} {p : PodD} {node : Str} (h : feasD s p node = true) : ∃ n u t, s.nodes.find? (fun n => n.name == node) = some n ∧ usedD s node = some u ∧ addD u p.req = some t := by
  unfold feasD at h
  cases hf : s.nodes.find? (fun n => n.name == node) with
  | none => rw [hf] at h; cases h
  | some n =>
    rw [hf] at h
    have hn : n.name = node := by simpa using List.find?_some hf
    dsimp only at h
    simp only [eachD, Bool.and_eq_true] at h
    have h1 := h.2.1
    unfold roomD at h1
    rw [hn] at h1
    cases hu : usedD s node with
    | none => rw [hu] at h1; cases h1
    | some u =>
      rw [hu] at h1
      dsimp only at h1
      cases ht : addD u p.req with
      | none => rw [ht] at h1; cases h1
      | some t => exact ⟨n, u, t, rfl, rfl, ht⟩
theorem score_no {s : StD} {p : PodD} {node : Str} {pack : Bool} (h : feasD s p node = false) : scoreD s p node pack = -1 := by
  unfold scoreD
  rw [h]
  rfl
theorem score_in {s : StD} {p : PodD} {node : Str} {pack : Bool} (h : feasD s p node = true) : 0 ≤ scoreD s p node pack ∧ scoreD s p node pack ≤ 410 := by
  obtain ⟨n, u, t, h1, h2, h3⟩ := feas_parts h
  unfold scoreD
  rw [if_pos h, h1, h2]
  dsimp only
  rw [h3]
  obtain ⟨any, hz⟩ := accD_ok pack n.cap t 3 (Nat.le_refl _)
  exact scoreV_in hz _
section
variable {P : Program} (hG : FnsOk P AF.fns.get)
include hG
set_option maxHeartbeats 1000000 in
theorem share_all (a c : Int) : Pure P 73 [.i .i64 a, .i .i64 c] (· = .i .i64 (shareD a c)) := by
  refine pure_fn (hG _ AF.f73 rfl) rfl ?_
  by_cases h1 : c < 1
  · ((conv => whnf); repeat ((first | refine yf rfl ?_ | refine yt rfl ?_ | refine yo rfl ?_ | refine yc rfl ?_ | refine ys rfl ?_ | refine ye rfl ?_ | refine yn rfl ?_ | refine zw ?_ | refine zdt ?_ | refine zdf ?_ | refine znt ?_ | refine znf ?_ | refine zcd ?_ | refine zci ?_ | refine zc3 ?_) <;> (conv => whnf)))
    exact pure_free rfl (by rw [shareD, if_pos (.inl h1)])
  by_cases h2 : 1000000000 < c
  · ((conv => whnf); repeat ((first | refine yf rfl ?_ | refine yt rfl ?_ | refine yo rfl ?_ | refine yc rfl ?_ | refine ys rfl ?_ | refine ye rfl ?_ | refine yn rfl ?_ | refine zw ?_ | refine zdt ?_ | refine zdf ?_ | refine znt ?_ | refine znf ?_ | refine zcd ?_ | refine zci ?_ | refine zc3 ?_) <;> (conv => whnf)))
    exact pure_free rfl (by rw [shareD, if_pos (.inr h2)])
  have hm := clipc (a := a) (c := c) (by omega)
  have hq := shareD_in a c
  have hs : shareD a c = (100 * minI (maxI a 0) c).tdiv c := by rw [shareD, if_neg (by omega)]
  rw [hs] at hq ⊢
  obtain ⟨m, hmd⟩ : ∃ m, minI (maxI a 0) c = m := ⟨_, rfl⟩
  rw [hmd] at hm hq ⊢
  ((conv => whnf); repeat ((first | refine SOpt.of (mx2 (z := maxI a 0) rfl) ?_ | refine SOpt.of (mn2 (z := m) hmd) ?_ | refine SChk.mk (by simp; omega) ?_ | refine SWrap.w64 (by exact Int.le_trans (by decide) hq.1) (by exact Int.le_trans hq.2 (by decide)) ?_ | refine yf rfl ?_ | refine yt rfl ?_ | refine yo rfl ?_ | refine yc rfl ?_ | refine ys rfl ?_ | refine ye rfl ?_ | refine yn rfl ?_ | refine zw ?_ | refine zdt ?_ | refine zdf ?_ | refine znt ?_ | refine znf ?_ | refine zcd ?_ | refine zci ?_ | refine zc3 ?_) <;> (conv => whnf)))
  exact pure_free rfl rfl
set_option maxHeartbeats 1000000 in
theorem rshare_all (a c : Int) : Pure P 75 [.i .i64 a, .i .i64 c] (· = .i .i64 (shareD a c)) := by
  refine pure_fn (hG _ AF.f75 rfl) rfl ?_
  by_cases h1 : c < 1
  · ((conv => whnf); repeat ((first | refine yf rfl ?_ | refine yt rfl ?_ | refine yo rfl ?_ | refine yc rfl ?_ | refine ys rfl ?_ | refine ye rfl ?_ | refine yn rfl ?_ | refine zw ?_ | refine zdt ?_ | refine zdf ?_ | refine znt ?_ | refine znf ?_ | refine zcd ?_ | refine zci ?_ | refine zc3 ?_) <;> (conv => whnf)))
    exact pure_free rfl (by rw [shareD, if_pos (.inl h1)])
  by_cases h2 : 1000000000 < c
  · ((conv => whnf); repeat ((first | refine yf rfl ?_ | refine yt rfl ?_ | refine yo rfl ?_ | refine yc rfl ?_ | refine ys rfl ?_ | refine ye rfl ?_ | refine yn rfl ?_ | refine zw ?_ | refine zdt ?_ | refine zdf ?_ | refine znt ?_ | refine znf ?_ | refine zcd ?_ | refine zci ?_ | refine zc3 ?_) <;> (conv => whnf)))
    exact pure_free rfl (by rw [shareD, if_pos (.inr h2)])
  have hm := clipc (a := a) (c := c) (by omega)
  have hs : shareD a c = (100 * minI (maxI a 0) c).tdiv c := by rw [shareD, if_neg (by omega)]
  rw [hs]
  obtain ⟨m, hmd⟩ : ∃ m, minI (maxI a 0) c = m := ⟨_, rfl⟩
  have hmd2 : maxI 0 (minI a c) = m := by rw [← hmd]; unfold minI maxI; split <;> split <;> split <;> omega
  rw [hmd] at hm ⊢
  ((conv => whnf); repeat ((first | refine SOpt.of (mn2 (z := minI a c) rfl) ?_ | refine SOpt.of (mx2 (z := m) hmd2) ?_ | refine yf rfl ?_ | refine yt rfl ?_ | refine yo rfl ?_ | refine yc rfl ?_ | refine ys rfl ?_ | refine ye rfl ?_ | refine yn rfl ?_ | refine zw ?_ | refine zdt ?_ | refine zdf ?_ | refine znt ?_ | refine znf ?_ | refine zcd ?_ | refine zci ?_ | refine zc3 ?_) <;> (conv => whnf)))
  refine SLoopZ.by (fun q fr st => ∃ n : Nat, n ≤ 100 ∧ q = 100 - n ∧ (n : Int) * c ≤ 100 * m ∧ fr = [(5, .i .i64 n), (1, .i .i64 c), (0, .i .i64 m)] ∧ st = gst noG)
    100 ⟨_, _, ?_, 0, Nat.zero_le _, rfl, by omega, rfl, rfl⟩ ?_
  · exact tL0
  rintro q fr st ⟨n, hn, rfl, hle, rfl, rfl⟩ R hR
  have hk0 : 0 ≤ ((n : Int) + 1) * c := Int.mul_nonneg (by omega) (by omega)
  have hk1 : ((n : Int) + 1) * c ≤ 101 * c := Int.mul_le_mul_of_nonneg_right (by omega) (by omega)
  obtain ⟨k, hk⟩ : ∃ k, ((n : Int) + 1) * c = k := ⟨_, rfl⟩
  rw [hk] at hk0 hk1
  ((conv => whnf); repeat ((first | refine yf rfl ?_ | refine yt rfl ?_ | refine yo rfl ?_ | refine yc rfl ?_ | refine ys rfl ?_ | refine ye rfl ?_ | refine yn rfl ?_ | refine zw ?_ | refine zdt ?_ | refine zdf ?_ | refine znt ?_ | refine znf ?_ | refine zcd ?_ | refine zci ?_ | refine zc3 ?_) <;> (conv => whnf)))
  refine SIf.ds (fun hlt => ?_) (fun hge => ?_)
  · ((conv => whnf); repeat ((first | refine SWrap.w64 (by rw [hk]; omega) (by rw [hk]; omega) ?_ | refine yf rfl ?_ | refine yt rfl ?_ | refine yo rfl ?_ | refine yc rfl ?_ | refine ys rfl ?_ | refine ye rfl ?_ | refine yn rfl ?_ | refine zw ?_ | refine zdt ?_ | refine zdf ?_ | refine znt ?_ | refine znf ?_ | refine zcd ?_ | refine zci ?_ | refine zc3 ?_) <;> (conv => whnf)))
    refine SIf.ds (fun hc => ?_) (fun hc => ?_)
    · ((conv => whnf); repeat ((first | refine yf rfl ?_ | refine yt rfl ?_ | refine yo rfl ?_ | refine yc rfl ?_ | refine ys rfl ?_ | refine ye rfl ?_ | refine yn rfl ?_ | refine zw ?_ | refine zdt ?_ | refine zdf ?_ | refine znt ?_ | refine znf ?_ | refine zcd ?_ | refine zci ?_ | refine zc3 ?_) <;> (conv => whnf)))
      refine hR (100 - (n + 1)) _ _ (by omega) ⟨_, _, ?_, n + 1, by omega, rfl, by rw [Int.natCast_succ]; exact hc, rfl, rfl⟩
      exact tL0
    · ((conv => whnf); repeat ((first | refine yf rfl ?_ | refine yt rfl ?_ | refine yo rfl ?_ | refine yc rfl ?_ | refine ys rfl ?_ | refine ye rfl ?_ | refine yn rfl ?_ | refine zw ?_ | refine zdt ?_ | refine zdf ?_ | refine znt ?_ | refine znf ?_ | refine zcd ?_ | refine zci ?_ | refine zc3 ?_) <;> (conv => whnf)))
      refine pure_free rfl (congrArg (V.i .i64) ?_)
      rw [Int.tdiv_eq_ediv_of_nonneg (by omega)]
      refine Int.le_antisymm (Int.le_ediv_of_mul_le (by omega) hle) ?_
      have : 100 * m / c < (n : Int) + 1 := Int.ediv_lt_of_lt_mul (by omega) (by omega)
      omega
  · ((conv => whnf); repeat ((first | refine yf rfl ?_ | refine yt rfl ?_ | refine yo rfl ?_ | refine yc rfl ?_ | refine ys rfl ?_ | refine ye rfl ?_ | refine yn rfl ?_ | refine zw ?_ | refine zdt ?_ | refine zdf ?_ | refine znt ?_ | refine znf ?_ | refine zcd ?_ | refine zci ?_ | refine zc3 ?_) <;> (conv => whnf)))
    refine pure_free rfl (congrArg (V.i .i64) ?_)
    rw [Int.tdiv_eq_ediv_of_nonneg (by omega)]
    obtain rfl : n = 100 := by omega
    refine Int.le_antisymm (Int.le_ediv_of_mul_le (by omega) hle) ?_
    exact Int.ediv_le_of_le_mul (by omega) (by omega)
end
end Go.Eng
/-
How good: a node's score.
-/
namespace Go.Eng
open Go
section
variable {P : Program} (hG : FnsOk P AF.fns.get)
include hG
set_option maxHeartbeats 8000000 in
set_option maxRecDepth 10000 in
theorem score_all (s : StD) (p : PodD) (node : Str) (pack : Bool) (hs : s.ok) (hp : p.fit) (hsm : Small s) (hr : ∀ q ∈ s.pods, PodRoom q) : Pure P 30 [stV s, .agg (podR p), .s node, .b pack] (· = .i .i64 (scoreD s p node pack)) := by
  have a1 := feas_ok hG s p node hs hp hsm
  refine pure_fn (hG _ AF.f30 rfl) rfl ?_
  cases hf : feasD s p node
  · rw [hf] at a1
    rw [score_no hf]
    ((conv => whnf); repeat ((first | refine SCall.app (Pure.go a1 rfl) ?_ | refine yf rfl ?_ | refine yt rfl ?_ | refine yo rfl ?_ | refine yc rfl ?_ | refine ys rfl ?_ | refine ye rfl ?_ | refine yn rfl ?_ | refine zw ?_ | refine zdt ?_ | refine zdf ?_ | refine znt ?_ | refine znf ?_ | refine zcd ?_ | refine zci ?_ | refine zc3 ?_) <;> (conv => whnf)))
    exact pure_free rfl rfl
  rw [hf] at a1
  obtain ⟨n, u, t, h1, h2, h3⟩ := feas_parts hf
  have a2 := getnode_ok hG s node hs.nodes hsm
  have a3 := used_ok hG s node hs.pods (by have := hs.some; omega) (fun q hq => (hs.pod q hq).req)
  rw [h2] at a3
  have a4 := add_ok hG u p.req (sumD_ok (by decide) h2) hp.req
  have a5 := on_ok hG s node hs hr
  have hsc : scoreD s p node pack = scoreV (accD pack n.cap t 3) (onD s node).length := by
    unfold scoreD
    rw [if_pos hf, h1, h2]
    dsimp only
    rw [h3]
  have hol : (onD s node).length ≤ s.pods.length := List.length_filter_le _ _
  have hl := hs.pods
  have hsome := hs.some
  unfold LenOk at hl
  rw [h1] at a2
  rw [h3] at a4
  rw [hsc]
  generalize onD s node = l at a5 hol
  have hlm : (l.map podR).length = l.length := List.length_map _
  ((conv => whnf); repeat ((first | refine SCall.app (Pure.go a1 rfl) ?_ | refine SCall.app (Pure.go a2 rfl) ?_ | refine SCall.app (Pure.go a3 rfl) ?_ | refine SCall.app (Pure.go a4 rfl) ?_ | refine yf rfl ?_ | refine yt rfl ?_ | refine yo rfl ?_ | refine yc rfl ?_ | refine ys rfl ?_ | refine ye rfl ?_ | refine yn rfl ?_ | refine zw ?_ | refine zdt ?_ | refine zdf ?_ | refine znt ?_ | refine znf ?_ | refine zcd ?_ | refine zci ?_ | refine zc3 ?_) <;> (conv => whnf)))
  refine SLoopZ.by (fun q fr st => ∃ (i : Nat) (z1 z2 z3 : Int) (any : Bool), i ≤ 3 ∧ q = 3 - i ∧ (z1, z2, z3) = accD pack n.cap t i ∧ AccOk i any (z1, z2, z3) ∧
      fr = [(47, .i .i64 i), (46, .agg (resR n.cap)), (17, .i .i64 z3), (16, .i .i64 z2), (15, .i .i64 z1), (13, .p (.l 1) 0), (4, .p (.l 0) 0), (3, .b pack), (2, .s node)] ∧
      st = ⟨noG, ⟨2, [(1, .cs (resR t)), (0, .cs [.sl none 6 (s.nodes.map nodeR), .sl none 16 (s.pods.map podR)])]⟩⟩)
    3 ⟨_, _, ?_, 0, 0, 100, 0, false, Nat.zero_le _, rfl, rfl, .zero, rfl, rfl⟩ ?_
  · exact tL [0, 4]
  rintro q fr st ⟨i, z1, z2, z3, any, hi, rfl, hz, hok, rfl, rfl⟩ R hR
  have b1 := hok.s0
  have b2 := hok.s1
  have b3 := hok.l0
  have b4 := hok.l1
  have b5 := hok.h0
  have b6 := hok.h1
  dsimp only at b1 b2 b3 b4 b5 b6
  rcases (show i = 3 ∨ i < 3 by omega) with rfl | hi3
  · rw [← hz]
    obtain ⟨d, hd⟩ : ∃ d, maxI (z3 - z2) 0 = d := ⟨_, rfl⟩
    have hd1 : 0 ≤ d ∧ d ≤ 100 := by rw [← hd]; unfold maxI; split <;> omega
    obtain ⟨k, hk⟩ : ∃ k, maxI (10 - (((l.map podR).length : Nat) : Int)) 0 = k := ⟨_, rfl⟩
    have hk1 : 0 ≤ k ∧ k ≤ 10 := by rw [← hk]; unfold maxI; split <;> omega
    ((conv => whnf); repeat ((first | refine SOpt.of (mx2 (z := d) hd) ?_ | refine SOpt.of (mx2 (z := k) hk) ?_ | refine SCall.app (Pure.go a5 rfl) ?_ | refine yf rfl ?_ | refine yt rfl ?_ | refine yo rfl ?_ | refine yc rfl ?_ | refine ys rfl ?_ | refine ye rfl ?_ | refine yn rfl ?_ | refine zw ?_ | refine zdt ?_ | refine zdf ?_ | refine znt ?_ | refine znf ?_ | refine zcd ?_ | refine zci ?_ | refine zc3 ?_) <;> (conv => whnf)))
    refine pure_free rfl (congrArg (V.i .i64) ?_)
    show _ = z1 + 100 - maxI (z3 - z2) 0 + maxI (10 - (l.length : Int)) 0
    rw [hlm] at hk
    rw [hd, hk]
  · have step : ∀ (r x : Int), (¬ r ≤ 0 → Pure P 73 [.i .i64 x, .i .i64 r] (· = .i .i64 (shareD x r))) := fun r x _ => share_all hG x r
    rcases (show i = 0 ∨ i = 1 ∨ i = 2 by omega) with rfl | rfl | rfl
    · by_cases hc : n.cap.a ≤ 0
      · have hn : (z1, z2, z3) = accD pack n.cap t 1 := by rw [hz]; simp [accD, acc1, hc]
        ((conv => whnf); repeat ((first | refine yf rfl ?_ | refine yt rfl ?_ | refine yo rfl ?_ | refine yc rfl ?_ | refine ys rfl ?_ | refine ye rfl ?_ | refine yn rfl ?_ | refine zw ?_ | refine zdt ?_ | refine zdf ?_ | refine znt ?_ | refine znf ?_ | refine zcd ?_ | refine zci ?_ | refine zc3 ?_) <;> (conv => whnf)))
        refine hR 2 _ _ (by omega) ⟨_, _, ?_, 1, z1, z2, z3, any, by omega, rfl, hn, hok.pass, rfl, rfl⟩
        exact tL [0, 1]
      · have hs1 := step n.cap.a t.a hc
        have hx := shareD_in t.a n.cap.a
        have hn : (z1 + (if pack then shareD t.a n.cap.a else 100 - shareD t.a n.cap.a), minI z2 (shareD t.a n.cap.a), maxI z3 (shareD t.a n.cap.a)) = accD pack n.cap t 1 := by
          have e : accD pack n.cap t 0 = (0, 100, 0) := rfl
          rw [e] at hz
          cases hz
          simp [accD, acc1, hc]
        generalize shareD t.a n.cap.a = x at hs1 hx hn
        have hk2 := hok.take pack hx.1 hx.2
        cases pack
        all_goals ((conv => whnf); repeat ((first | refine SCall.app (Pure.go hs1 rfl) ?_ | refine SOpt.of (mn2 (z := minI z2 x) rfl) ?_ | refine SOpt.of (mx2 (z := maxI z3 x) rfl) ?_ | refine yf rfl ?_ | refine yt rfl ?_ | refine yo rfl ?_ | refine yc rfl ?_ | refine ys rfl ?_ | refine ye rfl ?_ | refine yn rfl ?_ | refine zw ?_ | refine zdt ?_ | refine zdf ?_ | refine znt ?_ | refine znf ?_ | refine zcd ?_ | refine zci ?_ | refine zc3 ?_) <;> (conv => whnf)))
        all_goals
          refine hR 2 _ _ (by omega) ⟨_, _, ?_, 1, _, _, _, true, by omega, rfl, hn, hk2, rfl, rfl⟩
          exact tL [0, 1]
    · by_cases hc : n.cap.b ≤ 0
      · have hn : (z1, z2, z3) = accD pack n.cap t 2 := by
          have e : accD pack n.cap t 2 = acc1 pack n.cap.b t.b (accD pack n.cap t 1) := rfl
          rw [e, ← hz]
          simp [acc1, hc]
        ((conv => whnf); repeat ((first | refine yf rfl ?_ | refine yt rfl ?_ | refine yo rfl ?_ | refine yc rfl ?_ | refine ys rfl ?_ | refine ye rfl ?_ | refine yn rfl ?_ | refine zw ?_ | refine zdt ?_ | refine zdf ?_ | refine znt ?_ | refine znf ?_ | refine zcd ?_ | refine zci ?_ | refine zc3 ?_) <;> (conv => whnf)))
        refine hR 1 _ _ (by omega) ⟨_, _, ?_, 2, z1, z2, z3, any, by omega, rfl, hn, hok.pass, rfl, rfl⟩
        exact tL [0, 1]
      · have hs1 := step n.cap.b t.b hc
        have hx := shareD_in t.b n.cap.b
        have hn : (z1 + (if pack then shareD t.b n.cap.b else 100 - shareD t.b n.cap.b), minI z2 (shareD t.b n.cap.b), maxI z3 (shareD t.b n.cap.b)) = accD pack n.cap t 2 := by
          have e : accD pack n.cap t 2 = acc1 pack n.cap.b t.b (accD pack n.cap t 1) := rfl
          rw [e, ← hz]
          simp [acc1, hc]
        generalize shareD t.b n.cap.b = x at hs1 hx hn
        have hk2 := hok.take pack hx.1 hx.2
        cases pack
        all_goals ((conv => whnf); repeat ((first | refine SCall.app (Pure.go hs1 rfl) ?_ | refine SOpt.of (mn2 (z := minI z2 x) rfl) ?_ | refine SOpt.of (mx2 (z := maxI z3 x) rfl) ?_ | refine yf rfl ?_ | refine yt rfl ?_ | refine yo rfl ?_ | refine yc rfl ?_ | refine ys rfl ?_ | refine ye rfl ?_ | refine yn rfl ?_ | refine zw ?_ | refine zdt ?_ | refine zdf ?_ | refine znt ?_ | refine znf ?_ | refine zcd ?_ | refine zci ?_ | refine zc3 ?_) <;> (conv => whnf)))
        all_goals
          refine hR 1 _ _ (by omega) ⟨_, _, ?_, 2, _, _, _, true, by omega, rfl, hn, hk2, rfl, rfl⟩
          exact tL [0, 1]
    · by_cases hc : n.cap.c ≤ 0
      · have hn : (z1, z2, z3) = accD pack n.cap t 3 := by
          have e : accD pack n.cap t 3 = acc1 pack n.cap.c t.c (accD pack n.cap t 2) := rfl
          rw [e, ← hz]
          simp [acc1, hc]
        ((conv => whnf); repeat ((first | refine yf rfl ?_ | refine yt rfl ?_ | refine yo rfl ?_ | refine yc rfl ?_ | refine ys rfl ?_ | refine ye rfl ?_ | refine yn rfl ?_ | refine zw ?_ | refine zdt ?_ | refine zdf ?_ | refine znt ?_ | refine znf ?_ | refine zcd ?_ | refine zci ?_ | refine zc3 ?_) <;> (conv => whnf)))
        refine hR 0 _ _ (by omega) ⟨_, _, ?_, 3, z1, z2, z3, any, by omega, rfl, hn, hok.pass, rfl, rfl⟩
        exact tL [0, 1]
      · have hs1 := step n.cap.c t.c hc
        have hx := shareD_in t.c n.cap.c
        have hn : (z1 + (if pack then shareD t.c n.cap.c else 100 - shareD t.c n.cap.c), minI z2 (shareD t.c n.cap.c), maxI z3 (shareD t.c n.cap.c)) = accD pack n.cap t 3 := by
          have e : accD pack n.cap t 3 = acc1 pack n.cap.c t.c (accD pack n.cap t 2) := rfl
          rw [e, ← hz]
          simp [acc1, hc]
        generalize shareD t.c n.cap.c = x at hs1 hx hn
        have hk2 := hok.take pack hx.1 hx.2
        cases pack
        all_goals ((conv => whnf); repeat ((first | refine SCall.app (Pure.go hs1 rfl) ?_ | refine SOpt.of (mn2 (z := minI z2 x) rfl) ?_ | refine SOpt.of (mx2 (z := maxI z3 x) rfl) ?_ | refine yf rfl ?_ | refine yt rfl ?_ | refine yo rfl ?_ | refine yc rfl ?_ | refine ys rfl ?_ | refine ye rfl ?_ | refine yn rfl ?_ | refine zw ?_ | refine zdt ?_ | refine zdf ?_ | refine znt ?_ | refine znf ?_ | refine zcd ?_ | refine zci ?_ | refine zc3 ?_) <;> (conv => whnf)))
        all_goals
          refine hR 0 _ _ (by omega) ⟨_, _, ?_, 3, _, _, _, true, by omega, rfl, hn, hk2, rfl, rfl⟩
          exact tL [0, 1]
end
end Go.Eng
/-
How good: a node's score, by the document; the best node.
-/
namespace Go.Eng
open Go
theorem maxI_swap (x : Int) : maxI 0 x = maxI x 0 := by unfold maxI; split <;> split <;> omega
section
variable {P : Program} (hG : FnsOk P AF.fns.get)
include hG
set_option maxHeartbeats 8000000 in
set_option maxRecDepth 10000 in
theorem rscore_all (s : StD) (p : PodD) (node : Str) (pack : Bool) (hs : s.ok) (hp : p.fit) : Pure P 31 [stV s, .agg (podR p), .s node, .b pack] (· = .i .i64 (scoreD s p node pack)) := by
  have a1 := rfeas_ok hG s p node hs hp.toOk
  refine pure_fn (hG _ AF.f31 rfl) rfl ?_
  cases hf : feasD s p node
  · rw [hf] at a1
    rw [score_no hf]
    ((conv => whnf); repeat ((first | refine SCall.app (Pure.go a1 rfl) ?_ | refine yf rfl ?_ | refine yt rfl ?_ | refine yo rfl ?_ | refine yc rfl ?_ | refine ys rfl ?_ | refine ye rfl ?_ | refine yn rfl ?_ | refine zw ?_ | refine zdt ?_ | refine zdf ?_ | refine znt ?_ | refine znf ?_ | refine zcd ?_ | refine zci ?_ | refine zc3 ?_) <;> (conv => whnf)))
    exact pure_free rfl rfl
  rw [hf] at a1
  obtain ⟨n, u, t, h1, h2, h3⟩ := feas_parts hf
  have a2 := rgetnode_ok hG s node hs.nodes
  have a3 := rused_ok hG s node hs
  rw [h2] at a3
  have a4 := radd_ok hG u p.req
  have a5 := ron_ok hG s node hs
  have hsc : scoreD s p node pack = scoreV (accD pack n.cap t 3) (onD s node).length := by
    unfold scoreD
    rw [if_pos hf, h1, h2]
    dsimp only
    rw [h3]
  have hol : (onD s node).length ≤ s.pods.length := List.length_filter_le _ _
  have hl := hs.pods
  have hsome := hs.some
  unfold LenOk at hl
  rw [h1] at a2
  rw [h3] at a4
  rw [hsc]
  generalize onD s node = l at a5 hol
  have hlm : (l.map podR).length = l.length := List.length_map _
  ((conv => whnf); repeat ((first | refine SCall.app (Pure.go a1 rfl) ?_ | refine SCall.app (Pure.go a2 rfl) ?_ | refine SCall.app (Pure.go a3 rfl) ?_ | refine SCall.app (Pure.go a4 rfl) ?_ | refine yf rfl ?_ | refine yt rfl ?_ | refine yo rfl ?_ | refine yc rfl ?_ | refine ys rfl ?_ | refine ye rfl ?_ | refine yn rfl ?_ | refine zw ?_ | refine zdt ?_ | refine zdf ?_ | refine znt ?_ | refine znf ?_ | refine zcd ?_ | refine zci ?_ | refine zc3 ?_) <;> (conv => whnf)))
  refine SLoopZ.by (fun q fr st => ∃ (i : Nat) (z1 z2 z3 : Int) (any : Bool), i ≤ 3 ∧ q = 3 - i ∧ (z1, z2, z3) = accD pack n.cap t i ∧ AccOk i any (z1, z2, z3) ∧
      fr = [(45, .i .i64 i), (18, .b any), (17, .i .i64 z3), (16, .i .i64 z2), (15, .i .i64 z1), (13, .p (.l 2) 0), (9, .p (.l 1) 0), (4, .p (.l 0) 0), (3, .b pack), (2, .s node)] ∧
      st = ⟨noG, ⟨3, [(2, .cs (resR t)), (1, .cs (nodeR n)), (0, .cs [.sl none 6 (s.nodes.map nodeR), .sl none 16 (s.pods.map podR)])]⟩⟩)
    3 ⟨_, _, ?_, 0, 0, 100, 0, false, Nat.zero_le _, rfl, rfl, .zero, rfl, rfl⟩ ?_
  · exact tL [0, 2, 4]
  rintro q fr st ⟨i, z1, z2, z3, any, hi, rfl, hz, hok, rfl, rfl⟩ R hR
  have b1 := hok.s0
  have b2 := hok.s1
  have b3 := hok.l0
  have b4 := hok.l1
  have b5 := hok.h0
  have b6 := hok.h1
  dsimp only at b1 b2 b3 b4 b5 b6
  rcases (show i = 3 ∨ i < 3 by omega) with rfl | hi3
  · rw [← hz]
    obtain ⟨k, hk⟩ : ∃ k, maxI 0 (10 - (((l.map podR).length : Nat) : Int)) = k := ⟨_, rfl⟩
    have hk1 : 0 ≤ k ∧ k ≤ 10 := by rw [← hk]; unfold maxI; split <;> omega
    have hk2 : maxI (10 - (l.length : Int)) 0 = k := by rw [← hk, hlm, maxI_swap]
    have b7 := hok.le
    have b8 := hok.no
    dsimp only at b7 b8
    cases any
    · obtain ⟨rfl, rfl⟩ := b8 rfl
      ((conv => whnf); repeat ((first | refine SOpt.of (mx2 (z := k) hk) ?_ | refine SCall.app (Pure.go a5 rfl) ?_ | refine yf rfl ?_ | refine yt rfl ?_ | refine yo rfl ?_ | refine yc rfl ?_ | refine ys rfl ?_ | refine ye rfl ?_ | refine yn rfl ?_ | refine zw ?_ | refine zdt ?_ | refine zdf ?_ | refine znt ?_ | refine znf ?_ | refine zcd ?_ | refine zci ?_ | refine zc3 ?_) <;> (conv => whnf)))
      refine pure_free rfl (congrArg (V.i .i64) ?_)
      show _ = z1 + 100 - maxI (0 - 100) 0 + maxI (10 - (l.length : Int)) 0
      rw [hk2, show maxI (0 - 100) 0 = 0 from rfl]
      omega
    · have b7 := b7 rfl
      ((conv => whnf); repeat ((first | refine SOpt.of (mx2 (z := k) hk) ?_ | refine SCall.app (Pure.go a5 rfl) ?_ | refine yf rfl ?_ | refine yt rfl ?_ | refine yo rfl ?_ | refine yc rfl ?_ | refine ys rfl ?_ | refine ye rfl ?_ | refine yn rfl ?_ | refine zw ?_ | refine zdt ?_ | refine zdf ?_ | refine znt ?_ | refine znf ?_ | refine zcd ?_ | refine zci ?_ | refine zc3 ?_) <;> (conv => whnf)))
      refine pure_free rfl (congrArg (V.i .i64) ?_)
      show _ = z1 + 100 - maxI (z3 - z2) 0 + maxI (10 - (l.length : Int)) 0
      have hd : maxI (z3 - z2) 0 = z3 - z2 := by unfold maxI; split <;> omega
      rw [hk2, hd]
      omega
  · have step : ∀ (r x : Int), (¬ r ≤ 0 → Pure P 75 [.i .i64 x, .i .i64 r] (· = .i .i64 (shareD x r))) := fun r x _ => rshare_all hG x r
    rcases (show i = 0 ∨ i = 1 ∨ i = 2 by omega) with rfl | rfl | rfl
    · by_cases hc : n.cap.a ≤ 0
      · have hn : (z1, z2, z3) = accD pack n.cap t 1 := by rw [hz]; simp [accD, acc1, hc]
        ((conv => whnf); repeat ((first | refine yf rfl ?_ | refine yt rfl ?_ | refine yo rfl ?_ | refine yc rfl ?_ | refine ys rfl ?_ | refine ye rfl ?_ | refine yn rfl ?_ | refine zw ?_ | refine zdt ?_ | refine zdf ?_ | refine znt ?_ | refine znf ?_ | refine zcd ?_ | refine zci ?_ | refine zc3 ?_) <;> (conv => whnf)))
        refine hR 2 _ _ (by omega) ⟨_, _, ?_, 1, z1, z2, z3, any, by omega, rfl, hn, hok.pass, rfl, rfl⟩
        exact tL [0, 1, 2]
      · have hs1 := step n.cap.a t.a hc
        have hx := shareD_in t.a n.cap.a
        have hn : (z1 + (if pack then shareD t.a n.cap.a else 100 - shareD t.a n.cap.a), minI z2 (shareD t.a n.cap.a), maxI z3 (shareD t.a n.cap.a)) = accD pack n.cap t 1 := by
          have e : accD pack n.cap t 0 = (0, 100, 0) := rfl
          rw [e] at hz
          cases hz
          simp [accD, acc1, hc]
        generalize shareD t.a n.cap.a = x at hs1 hx hn
        have hk2 := hok.take pack hx.1 hx.2
        cases pack
        all_goals ((conv => whnf); repeat ((first | refine SCall.app (Pure.go hs1 rfl) ?_ | refine SOpt.of (mn2 (z := minI z2 x) rfl) ?_ | refine SOpt.of (mx2 (z := maxI z3 x) rfl) ?_ | refine yf rfl ?_ | refine yt rfl ?_ | refine yo rfl ?_ | refine yc rfl ?_ | refine ys rfl ?_ | refine ye rfl ?_ | refine yn rfl ?_ | refine zw ?_ | refine zdt ?_ | refine zdf ?_ | refine znt ?_ | refine znf ?_ | refine zcd ?_ | refine zci ?_ | refine zc3 ?_) <;> (conv => whnf)))
        all_goals
          refine hR 2 _ _ (by omega) ⟨_, _, ?_, 1, _, _, _, true, by omega, rfl, hn, hk2, rfl, rfl⟩
          exact tL [0, 1, 2]
    · by_cases hc : n.cap.b ≤ 0
      · have hn : (z1, z2, z3) = accD pack n.cap t 2 := by
          have e : accD pack n.cap t 2 = acc1 pack n.cap.b t.b (accD pack n.cap t 1) := rfl
          rw [e, ← hz]
          simp [acc1, hc]
        ((conv => whnf); repeat ((first | refine yf rfl ?_ | refine yt rfl ?_ | refine yo rfl ?_ | refine yc rfl ?_ | refine ys rfl ?_ | refine ye rfl ?_ | refine yn rfl ?_ | refine zw ?_ | refine zdt ?_ | refine zdf ?_ | refine znt ?_ | refine znf ?_ | refine zcd ?_ | refine zci ?_ | refine zc3 ?_) <;> (conv => whnf)))
        refine hR 1 _ _ (by omega) ⟨_, _, ?_, 2, z1, z2, z3, any, by omega, rfl, hn, hok.pass, rfl, rfl⟩
        exact tL [0, 1, 2]
      · have hs1 := step n.cap.b t.b hc
        have hx := shareD_in t.b n.cap.b
        have hn : (z1 + (if pack then shareD t.b n.cap.b else 100 - shareD t.b n.cap.b), minI z2 (shareD t.b n.cap.b), maxI z3 (shareD t.b n.cap.b)) = accD pack n.cap t 2 := by
          have e : accD pack n.cap t 2 = acc1 pack n.cap.b t.b (accD pack n.cap t 1) := rfl
          rw [e, ← hz]
          simp [acc1, hc]
        generalize shareD t.b n.cap.b = x at hs1 hx hn
        have hk2 := hok.take pack hx.1 hx.2
        cases pack
        all_goals ((conv => whnf); repeat ((first | refine SCall.app (Pure.go hs1 rfl) ?_ | refine SOpt.of (mn2 (z := minI z2 x) rfl) ?_ | refine SOpt.of (mx2 (z := maxI z3 x) rfl) ?_ | refine yf rfl ?_ | refine yt rfl ?_ | refine yo rfl ?_ | refine yc rfl ?_ | refine ys rfl ?_ | refine ye rfl ?_ | refine yn rfl ?_ | refine zw ?_ | refine zdt ?_ | refine zdf ?_ | refine znt ?_ | refine znf ?_ | refine zcd ?_ | refine zci ?_ | refine zc3 ?_) <;> (conv => whnf)))
        all_goals
          refine hR 1 _ _ (by omega) ⟨_, _, ?_, 2, _, _, _, true, by omega, rfl, hn, hk2, rfl, rfl⟩
          exact tL [0, 1, 2]
    · by_cases hc : n.cap.c ≤ 0
      · have hn : (z1, z2, z3) = accD pack n.cap t 3 := by
          have e : accD pack n.cap t 3 = acc1 pack n.cap.c t.c (accD pack n.cap t 2) := rfl
          rw [e, ← hz]
          simp [acc1, hc]
        ((conv => whnf); repeat ((first | refine yf rfl ?_ | refine yt rfl ?_ | refine yo rfl ?_ | refine yc rfl ?_ | refine ys rfl ?_ | refine ye rfl ?_ | refine yn rfl ?_ | refine zw ?_ | refine zdt ?_ | refine zdf ?_ | refine znt ?_ | refine znf ?_ | refine zcd ?_ | refine zci ?_ | refine zc3 ?_) <;> (conv => whnf)))
        refine hR 0 _ _ (by omega) ⟨_, _, ?_, 3, z1, z2, z3, any, by omega, rfl, hn, hok.pass, rfl, rfl⟩
        exact tL [0, 1, 2]
      · have hs1 := step n.cap.c t.c hc
        have hx := shareD_in t.c n.cap.c
        have hn : (z1 + (if pack then shareD t.c n.cap.c else 100 - shareD t.c n.cap.c), minI z2 (shareD t.c n.cap.c), maxI z3 (shareD t.c n.cap.c)) = accD pack n.cap t 3 := by
          have e : accD pack n.cap t 3 = acc1 pack n.cap.c t.c (accD pack n.cap t 2) := rfl
          rw [e, ← hz]
          simp [acc1, hc]
        generalize shareD t.c n.cap.c = x at hs1 hx hn
        have hk2 := hok.take pack hx.1 hx.2
        cases pack
        all_goals ((conv => whnf); repeat ((first | refine SCall.app (Pure.go hs1 rfl) ?_ | refine SOpt.of (mn2 (z := minI z2 x) rfl) ?_ | refine SOpt.of (mx2 (z := maxI z3 x) rfl) ?_ | refine yf rfl ?_ | refine yt rfl ?_ | refine yo rfl ?_ | refine yc rfl ?_ | refine ys rfl ?_ | refine ye rfl ?_ | refine yn rfl ?_ | refine zw ?_ | refine zdt ?_ | refine zdf ?_ | refine znt ?_ | refine znf ?_ | refine zcd ?_ | refine zci ?_ | refine zc3 ?_) <;> (conv => whnf)))
        all_goals
          refine hR 0 _ _ (by omega) ⟨_, _, ?_, 3, _, _, _, true, by omega, rfl, hn, hk2, rfl, rfl⟩
          exact tL [0, 1, 2]
end
end Go.Eng
/-
The best node.
-/
namespace Go.Eng
open Go
def bestGo (s : StD) (p : PodD) (pack : Bool) : List Str → Int → Str → Int × Str
  | [], b, a => (b, a)
  | n :: r, b, a => if b < scoreD s p n pack then bestGo s p pack r (scoreD s p n pack) n else bestGo s p pack r b a
def bestD (s : StD) (p : PodD) (pack : Bool) : Int × Str := bestGo s p pack (whereD s p) (-1) []
section
variable {s : StD} {p : PodD} {pack : Bool}
theorem best_ge : ∀ {L : List Str} {b : Int} {a : Str}, b ≤ (bestGo s p pack L b a).1 ∧ ∀ x ∈ L, scoreD s p x pack ≤ (bestGo s p pack L b a).1
  | [], b, a => ⟨Int.le_refl _, fun _ h => by cases h⟩
  | n :: r, b, a => by
    rw [bestGo]
    split
    · rename_i h
      have ih := best_ge (L := r) (b := scoreD s p n pack) (a := n)
      refine ⟨by omega, fun x hx => ?_⟩
      cases hx with
      | head => exact ih.1
      | tail _ hx => exact ih.2 x hx
    · rename_i h
      have ih := best_ge (L := r) (b := b) (a := a)
      refine ⟨ih.1, fun x hx => ?_⟩
      cases hx with
      | head => omega
      | tail _ hx => exact ih.2 x hx
theorem best_of : ∀ {L : List Str} {b : Int} {a : Str}, bestGo s p pack L b a = (b, a) ∨ ((bestGo s p pack L b a).2 ∈ L ∧ (bestGo s p pack L b a).1 = scoreD s p (bestGo s p pack L b a).2 pack ∧ b < (bestGo s p pack L b a).1)
  | [], b, a => .inl rfl
  | n :: r, b, a => by
    rw [bestGo]
    split
    · rename_i h
      rcases best_of (L := r) (b := scoreD s p n pack) (a := n) with ih | ⟨h1, h2, h3⟩
      · rw [ih]
        exact .inr ⟨.head _, rfl, h⟩
      · exact .inr ⟨.tail _ h1, h2, by omega⟩
    · rcases best_of (L := r) (b := b) (a := a) with ih | ⟨h1, h2, h3⟩
      · exact .inl ih
      · exact .inr ⟨.tail _ h1, h2, h3⟩
theorem best_first : ∀ {L : List Str} {b : Int} {a : Str}, L.Pairwise lessS → ∀ x ∈ L, scoreD s p x pack = (bestGo s p pack L b a).1 → (bestGo s p pack L b a).2 = x ∨ lessS (bestGo s p pack L b a).2 x ∨ bestGo s p pack L b a = (b, a)
  | [], b, a, _, x, h, _ => by cases h
  | n :: r, b, a, hs, x, hx, he => by
    rw [List.pairwise_cons] at hs
    rw [bestGo] at he ⊢
    split at he
    · rename_i h
      rw [if_pos h]
      have hof := best_of (s := s) (p := p) (pack := pack) (L := r) (b := scoreD s p n pack) (a := n)
      cases hx with
      | head =>
        rcases hof with h1 | ⟨_, _, h3⟩
        · rw [h1]; exact .inl rfl
        · omega
      | tail _ hx =>
        rcases best_first hs.2 x hx he with h1 | h1 | h1
        · exact .inl h1
        · exact .inr (.inl h1)
        · rw [h1]; exact .inr (.inl (hs.1 x hx))
    · rename_i h
      rw [if_neg h]
      have hof := best_of (s := s) (p := p) (pack := pack) (L := r) (b := b) (a := a)
      cases hx with
      | head =>
        rcases hof with h1 | ⟨_, _, h3⟩
        · exact .inr (.inr h1)
        · have := (best_ge (s := s) (p := p) (pack := pack) (L := r) (b := b) (a := a)).1
          omega
      | tail _ hx => exact best_first hs.2 x hx he
/-- No node is better than the best one; of those that are as good it has the least name. -/
theorem best_all (hs : (whereD s p).Pairwise lessS) (hok : 0 ≤ (bestD s p pack).1) {n : NodeD} (hn : n ∈ s.nodes) :
    scoreD s p n.name pack ≤ scoreD s p (bestD s p pack).2 pack ∧ (scoreD s p n.name pack = scoreD s p (bestD s p pack).2 pack → 0 ≤ scoreD s p n.name pack → Op.bytesLess n.name (bestD s p pack).2 = false) := by
  have hb : (bestD s p pack).1 = scoreD s p (bestD s p pack).2 pack := by
    unfold bestD at hok ⊢
    rcases best_of (s := s) (p := p) (pack := pack) (L := whereD s p) (b := -1) (a := []) with h | h
    · rw [h] at hok
      exact absurd hok (by decide)
    · exact h.2.1
  rw [← hb]
  cases hf : feasD s p n.name
  · rw [score_no hf]
    exact ⟨by omega, fun _ h => absurd h (by decide)⟩
  · have hm : n.name ∈ whereD s p := List.mem_map.2 ⟨n, List.mem_filter.2 ⟨hn, hf⟩, rfl⟩
    refine ⟨(best_ge (s := s) (p := p) (pack := pack) (L := whereD s p) (b := -1) (a := [])).2 _ hm, fun he _ => ?_⟩
    rcases best_first (b := -1) (a := []) hs _ hm he with h | h | h
    · have h : (bestD s p pack).2 = n.name := h
      rw [h]
      exact less_irr _
    · exact less_asymm h
    · have : bestD s p pack = (-1, []) := h
      rw [this] at hok
      exact absurd hok (by decide)
end
section
variable {P : Program} (hG : FnsOk P AF.fns.get)
include hG
set_option maxHeartbeats 4000000 in
set_option maxRecDepth 10000 in
theorem best_ok (s : StD) (p : PodD) (pack : Bool) (hwl : (whereD s p).length ≤ 6) (hw : Pure P 22 [stV s, .agg (podR p)] (· = .sl none 1 ((whereD s p).map strR))) (hsc : ∀ node : Str, Pure P 30 [stV s, .agg (podR p), .s node, .b pack] (· = .i .i64 (scoreD s p node pack))) :
    Pure P 28 [stV s, .agg (podR p), .b pack] (· = .tup [.s (bestD s p pack).2, .b (decide ((bestD s p pack).1 ≥ 0))]) := by
  rw [bestD]
  generalize whereD s p = l at hw hwl
  have hlm : (l.map strR).length = l.length := List.length_map _
  refine pure_fn (hG _ AF.f28 rfl) rfl ?_
  ((conv => whnf); repeat ((first | refine SCall.app (Pure.go hw rfl) ?_ | refine yf rfl ?_ | refine yt rfl ?_ | refine yo rfl ?_ | refine yc rfl ?_ | refine ys rfl ?_ | refine ye rfl ?_ | refine yn rfl ?_ | refine zw ?_ | refine zdt ?_ | refine zdf ?_ | refine znt ?_ | refine znf ?_ | refine zcd ?_ | refine zci ?_ | refine zc3 ?_) <;> (conv => whnf)))
  refine SLoopZ.by (fun q fr st => ∃ (i : Nat) (b : Int) (a : Str), i ≤ l.length ∧ q = l.length - i ∧ bestGo s p pack l (-1) [] = bestGo s p pack (l.drop i) b a ∧
      fr = [(17, .i .i64 i), (16, .i .i64 (l.map strR).length), (15, .sl none 1 (l.map strR)), (9, .s a), (8, .i .i64 b), (4, .p (.l 1) 0), (3, .p (.l 0) 0), (2, .b pack)] ∧
      st = ⟨noG, ⟨2, [(1, .cs (podR p)), (0, .cs [.sl none 6 (s.nodes.map nodeR), .sl none 16 (s.pods.map podR)])]⟩⟩)
    l.length ⟨_, _, ?_, 0, -1, [], Nat.zero_le _, rfl, rfl, rfl, rfl⟩ ?_
  · exact tL [0, 1]
  rintro q fr st ⟨i, b, a, hi, rfl, hgo, rfl, rfl⟩ R hR
  (conv => whnf)
  refine SIf.ds (fun hlt => ?_) (fun hge => ?_)
  · have hi' : i < l.length := by omega
    have he := List.getElem?_eq_getElem hi'
    rw [List.drop_eq_getElem_cons hi', bestGo] at hgo
    generalize l[i] = e at he hgo
    have hc := hsc e
    generalize scoreD s p e pack = x at hc hgo
    by_cases hbx : b < x
    · rw [if_pos hbx] at hgo
      ((conv => whnf); repeat ((first | refine SCall.app (Pure.go hc rfl) ?_ | refine SEx.of (map_get' (by omega) he) ?_ | refine yf rfl ?_ | refine yt rfl ?_ | refine yo rfl ?_ | refine yc rfl ?_ | refine ys rfl ?_ | refine ye rfl ?_ | refine yn rfl ?_ | refine zw ?_ | refine zdt ?_ | refine zdf ?_ | refine znt ?_ | refine znf ?_ | refine zcd ?_ | refine zci ?_ | refine zc3 ?_) <;> (conv => whnf)))
      refine hR (l.length - (i + 1)) _ _ (by omega) ⟨_, _, ?_, i + 1, x, e, by omega, rfl, hgo, rfl, rfl⟩
      exact tL [0, 1]
    · rw [if_neg hbx] at hgo
      ((conv => whnf); repeat ((first | refine SCall.app (Pure.go hc rfl) ?_ | refine SEx.of (map_get' (by omega) he) ?_ | refine yf rfl ?_ | refine yt rfl ?_ | refine yo rfl ?_ | refine yc rfl ?_ | refine ys rfl ?_ | refine ye rfl ?_ | refine yn rfl ?_ | refine zw ?_ | refine zdt ?_ | refine zdf ?_ | refine znt ?_ | refine znf ?_ | refine zcd ?_ | refine zci ?_ | refine zc3 ?_) <;> (conv => whnf)))
      refine hR (l.length - (i + 1)) _ _ (by omega) ⟨_, _, ?_, i + 1, b, a, by omega, rfl, hgo, rfl, rfl⟩
      exact tL [0, 1]
  · rw [List.drop_eq_nil_of_le (by omega), bestGo] at hgo
    rw [hgo]
    ((conv => whnf); repeat ((first | refine yf rfl ?_ | refine yt rfl ?_ | refine yo rfl ?_ | refine yc rfl ?_ | refine ys rfl ?_ | refine ye rfl ?_ | refine yn rfl ?_ | refine zw ?_ | refine zdt ?_ | refine zdf ?_ | refine znt ?_ | refine znf ?_ | refine zcd ?_ | refine zci ?_ | refine zc3 ?_) <;> (conv => whnf)))
    exact pure_free rfl rfl
set_option maxHeartbeats 4000000 in
set_option maxRecDepth 10000 in
theorem rbest_ok (s : StD) (p : PodD) (pack : Bool) (hwl : (whereD s p).length ≤ 6) (hw : Pure P 24 [stV s, .agg (podR p)] (· = .sl none 1 ((whereD s p).map strR))) (hsc : ∀ node : Str, Pure P 31 [stV s, .agg (podR p), .s node, .b pack] (· = .i .i64 (scoreD s p node pack))) :
    Pure P 29 [stV s, .agg (podR p), .b pack] (· = .tup [.s (bestD s p pack).2, .b (decide ((bestD s p pack).1 ≥ 0))]) := by
  rw [bestD]
  generalize whereD s p = l at hw hwl
  have hlm : (l.map strR).length = l.length := List.length_map _
  refine pure_fn (hG _ AF.f29 rfl) rfl ?_
  ((conv => whnf); repeat ((first | refine SCall.app (Pure.go hw rfl) ?_ | refine yf rfl ?_ | refine yt rfl ?_ | refine yo rfl ?_ | refine yc rfl ?_ | refine ys rfl ?_ | refine ye rfl ?_ | refine yn rfl ?_ | refine zw ?_ | refine zdt ?_ | refine zdf ?_ | refine znt ?_ | refine znf ?_ | refine zcd ?_ | refine zci ?_ | refine zc3 ?_) <;> (conv => whnf)))
  refine SLoopZ.by (fun q fr st => ∃ (i : Nat) (b : Int) (a : Str), i ≤ l.length ∧ q = l.length - i ∧ bestGo s p pack l (-1) [] = bestGo s p pack (l.drop i) b a ∧
      fr = [(17, .i .i64 i), (16, .i .i64 (l.map strR).length), (15, .sl none 1 (l.map strR)), (9, .s a), (8, .i .i64 b), (4, .p (.l 1) 0), (3, .p (.l 0) 0), (2, .b pack)] ∧
      st = ⟨noG, ⟨2, [(1, .cs (podR p)), (0, .cs [.sl none 6 (s.nodes.map nodeR), .sl none 16 (s.pods.map podR)])]⟩⟩)
    l.length ⟨_, _, ?_, 0, -1, [], Nat.zero_le _, rfl, rfl, rfl, rfl⟩ ?_
  · exact tL [0, 1]
  rintro q fr st ⟨i, b, a, hi, rfl, hgo, rfl, rfl⟩ R hR
  (conv => whnf)
  refine SIf.ds (fun hlt => ?_) (fun hge => ?_)
  · have hi' : i < l.length := by omega
    have he := List.getElem?_eq_getElem hi'
    rw [List.drop_eq_getElem_cons hi', bestGo] at hgo
    generalize l[i] = e at he hgo
    have hc := hsc e
    generalize scoreD s p e pack = x at hc hgo
    by_cases hbx : b < x
    · rw [if_pos hbx] at hgo
      ((conv => whnf); repeat ((first | refine SCall.app (Pure.go hc rfl) ?_ | refine SEx.of (map_get' (by omega) he) ?_ | refine yf rfl ?_ | refine yt rfl ?_ | refine yo rfl ?_ | refine yc rfl ?_ | refine ys rfl ?_ | refine ye rfl ?_ | refine yn rfl ?_ | refine zw ?_ | refine zdt ?_ | refine zdf ?_ | refine znt ?_ | refine znf ?_ | refine zcd ?_ | refine zci ?_ | refine zc3 ?_) <;> (conv => whnf)))
      refine hR (l.length - (i + 1)) _ _ (by omega) ⟨_, _, ?_, i + 1, x, e, by omega, rfl, hgo, rfl, rfl⟩
      exact tL [0, 1]
    · rw [if_neg hbx] at hgo
      ((conv => whnf); repeat ((first | refine SCall.app (Pure.go hc rfl) ?_ | refine SEx.of (map_get' (by omega) he) ?_ | refine yf rfl ?_ | refine yt rfl ?_ | refine yo rfl ?_ | refine yc rfl ?_ | refine ys rfl ?_ | refine ye rfl ?_ | refine yn rfl ?_ | refine zw ?_ | refine zdt ?_ | refine zdf ?_ | refine znt ?_ | refine znf ?_ | refine zcd ?_ | refine zci ?_ | refine zc3 ?_) <;> (conv => whnf)))
      refine hR (l.length - (i + 1)) _ _ (by omega) ⟨_, _, ?_, i + 1, b, a, by omega, rfl, hgo, rfl, rfl⟩
      exact tL [0, 1]
  · rw [List.drop_eq_nil_of_le (by omega), bestGo] at hgo
    rw [hgo]
    ((conv => whnf); repeat ((first | refine yf rfl ?_ | refine yt rfl ?_ | refine yo rfl ?_ | refine yc rfl ?_ | refine ys rfl ?_ | refine ye rfl ?_ | refine yn rfl ?_ | refine zw ?_ | refine zdt ?_ | refine zdf ?_ | refine znt ?_ | refine znf ?_ | refine zcd ?_ | refine zci ?_ | refine zc3 ?_) <;> (conv => whnf)))
    exact pure_free rfl rfl
end
end Go.Eng
