/-
How good: a node's score.
-/
import Derived.Test.YtllgfkpmblhbmaaGreatSc1q
import Derived.Test.YtllgfkpmblhbmaaGreatArgX
namespace Go.Eng
open Go
section
variable {P : Program} (hG : FnsOk P AF.fns.get)
include hG
set_option maxHeartbeats 8000000 in
set_option maxRecDepth 10000 in
theorem score_all (s : StD) (p : PodD) (node : Str) (pack : Bool) (hs : s.ok) (hp : p.fit) (hsm : Small s) (hr : ∀ q ∈ s.pods, PodRoom q) : Pure P 67 [stV s, .agg (podR p), .s node, .b pack] (· = .i .i64 (scoreD s p node pack)) := by
  have a1 := feas_ok hG s p node hs hp hsm
  refine pure_fn (hG _ AF.f67 rfl) rfl ?_
  cases hf : feasD s p node
  · rw [hf] at a1
    rw [score_no hf]
    ((conv => whnf); repeat ((first | refine SCall.app (Pure.go a1 rfl) ?_ | refine yf rfl ?_ | refine yt rfl ?_ | refine yo rfl ?_ | refine yc rfl ?_ | refine ys rfl ?_ | refine ye rfl ?_ | refine yn rfl ?_ | refine zw ?_ | refine zdt ?_ | refine zdf ?_ | refine znt ?_ | refine znf ?_ | refine zcd ?_ | refine zci ?_ | refine zc3 ?_) <;> (conv => whnf)))
    exact pure_free rfl rfl
  rw [hf] at a1
  obtain ⟨n, u, t, h1, h2, h3⟩ := feas_parts hf
  have a2 := getnode_ok hG s node hs.nodes hsm
  have a3 := used_ok hG s node hs.pods (by have := hs.some; omega) (fun q hq => (hs.pod q hq).req)
  rw [h2] at a3
  have a4 := add_ok hG u p.req (sumD_ok (by decide) h2) hp.req
  have a5 := on_ok hG s node hs hr
  have hsc : scoreD s p node pack = scoreV (accD pack n.cap t 3) (onD s node).length := by
    unfold scoreD
    rw [if_pos hf, h1, h2]
    dsimp only
    rw [h3]
  have hol : (onD s node).length ≤ s.pods.length := List.length_filter_le _ _
  have hl := hs.pods
  have hsome := hs.some
  unfold LenOk at hl
  rw [h1] at a2
  rw [h3] at a4
  rw [hsc]
  generalize onD s node = l at a5 hol
  have hlm : (l.map podR).length = l.length := List.length_map _
  ((conv => whnf); repeat ((first | refine SCall.app (Pure.go a1 rfl) ?_ | refine SCall.app (Pure.go a2 rfl) ?_ | refine SCall.app (Pure.go a3 rfl) ?_ | refine SCall.app (Pure.go a4 rfl) ?_ | refine yf rfl ?_ | refine yt rfl ?_ | refine yo rfl ?_ | refine yc rfl ?_ | refine ys rfl ?_ | refine ye rfl ?_ | refine yn rfl ?_ | refine zw ?_ | refine zdt ?_ | refine zdf ?_ | refine znt ?_ | refine znf ?_ | refine zcd ?_ | refine zci ?_ | refine zc3 ?_) <;> (conv => whnf)))
  refine SLoopZ.by (fun q fr st => ∃ (i : Nat) (z1 z2 z3 : Int) (any : Bool), i ≤ 3 ∧ q = 3 - i ∧ (z1, z2, z3) = accD pack n.cap t i ∧ AccOk i any (z1, z2, z3) ∧
      fr = [(47, .i .i64 i), (46, .agg (resR n.cap)), (17, .i .i64 z3), (16, .i .i64 z2), (15, .i .i64 z1), (13, .p (.l 1) 0), (4, .p (.l 0) 0), (3, .b pack), (2, .s node)] ∧
      st = ⟨noG, ⟨2, [(1, .cs (resR t)), (0, .cs [.sl none 6 (s.nodes.map nodeR), .sl none 16 (s.pods.map podR)])]⟩⟩)
    3 ⟨_, _, ?_, 0, 0, 100, 0, false, Nat.zero_le _, rfl, rfl, .zero, rfl, rfl⟩ ?_
  · exact tL [0, 4]
  rintro q fr st ⟨i, z1, z2, z3, any, hi, rfl, hz, hok, rfl, rfl⟩ R hR
  have b1 := hok.s0
  have b2 := hok.s1
  have b3 := hok.l0
  have b4 := hok.l1
  have b5 := hok.h0
  have b6 := hok.h1
  dsimp only at b1 b2 b3 b4 b5 b6
  rcases (show i = 3 ∨ i < 3 by omega) with rfl | hi3
  · rw [← hz]
    obtain ⟨d, hd⟩ : ∃ d, maxI (z3 - z2) 0 = d := ⟨_, rfl⟩
    have hd1 : 0 ≤ d ∧ d ≤ 100 := by rw [← hd]; unfold maxI; split <;> omega
    obtain ⟨k, hk⟩ : ∃ k, maxI (10 - (((l.map podR).length : Nat) : Int)) 0 = k := ⟨_, rfl⟩
    have hk1 : 0 ≤ k ∧ k ≤ 10 := by rw [← hk]; unfold maxI; split <;> omega
    ((conv => whnf); repeat ((first | refine SOpt.of (mx2 (z := d) hd) ?_ | refine SOpt.of (mx2 (z := k) hk) ?_ | refine SCall.app (Pure.go a5 rfl) ?_ | refine yf rfl ?_ | refine yt rfl ?_ | refine yo rfl ?_ | refine yc rfl ?_ | refine ys rfl ?_ | refine ye rfl ?_ | refine yn rfl ?_ | refine zw ?_ | refine zdt ?_ | refine zdf ?_ | refine znt ?_ | refine znf ?_ | refine zcd ?_ | refine zci ?_ | refine zc3 ?_) <;> (conv => whnf)))
    refine pure_free rfl (congrArg (V.i .i64) ?_)
    show _ = z1 + 100 - maxI (z3 - z2) 0 + maxI (10 - (l.length : Int)) 0
    rw [hlm] at hk
    rw [hd, hk]
  · have step : ∀ (r x : Int), (¬ r ≤ 0 → Pure P 120 [.i .i64 x, .i .i64 r] (· = .i .i64 (shareD x r))) := fun r x _ => share_all hG x r
    rcases (show i = 0 ∨ i = 1 ∨ i = 2 by omega) with rfl | rfl | rfl
    · by_cases hc : n.cap.a ≤ 0
      · have hn : (z1, z2, z3) = accD pack n.cap t 1 := by rw [hz]; simp [accD, acc1, hc]
        ((conv => whnf); repeat ((first | refine yf rfl ?_ | refine yt rfl ?_ | refine yo rfl ?_ | refine yc rfl ?_ | refine ys rfl ?_ | refine ye rfl ?_ | refine yn rfl ?_ | refine zw ?_ | refine zdt ?_ | refine zdf ?_ | refine znt ?_ | refine znf ?_ | refine zcd ?_ | refine zci ?_ | refine zc3 ?_) <;> (conv => whnf)))
        refine hR 2 _ _ (by omega) ⟨_, _, ?_, 1, z1, z2, z3, any, by omega, rfl, hn, hok.pass, rfl, rfl⟩
        exact tL [0, 1]
      · have hs1 := step n.cap.a t.a hc
        have hx := shareD_in t.a n.cap.a
        have hn : (z1 + (if pack then shareD t.a n.cap.a else 100 - shareD t.a n.cap.a), minI z2 (shareD t.a n.cap.a), maxI z3 (shareD t.a n.cap.a)) = accD pack n.cap t 1 := by
          have e : accD pack n.cap t 0 = (0, 100, 0) := rfl
          rw [e] at hz
          cases hz
          simp [accD, acc1, hc]
        generalize shareD t.a n.cap.a = x at hs1 hx hn
        have hk2 := hok.take pack hx.1 hx.2
        cases pack
        all_goals ((conv => whnf); repeat ((first | refine SCall.app (Pure.go hs1 rfl) ?_ | refine SOpt.of (mn2 (z := minI z2 x) rfl) ?_ | refine SOpt.of (mx2 (z := maxI z3 x) rfl) ?_ | refine yf rfl ?_ | refine yt rfl ?_ | refine yo rfl ?_ | refine yc rfl ?_ | refine ys rfl ?_ | refine ye rfl ?_ | refine yn rfl ?_ | refine zw ?_ | refine zdt ?_ | refine zdf ?_ | refine znt ?_ | refine znf ?_ | refine zcd ?_ | refine zci ?_ | refine zc3 ?_) <;> (conv => whnf)))
        all_goals
          refine hR 2 _ _ (by omega) ⟨_, _, ?_, 1, _, _, _, true, by omega, rfl, hn, hk2, rfl, rfl⟩
          exact tL [0, 1]
    · by_cases hc : n.cap.b ≤ 0
      · have hn : (z1, z2, z3) = accD pack n.cap t 2 := by
          have e : accD pack n.cap t 2 = acc1 pack n.cap.b t.b (accD pack n.cap t 1) := rfl
          rw [e, ← hz]
          simp [acc1, hc]
        ((conv => whnf); repeat ((first | refine yf rfl ?_ | refine yt rfl ?_ | refine yo rfl ?_ | refine yc rfl ?_ | refine ys rfl ?_ | refine ye rfl ?_ | refine yn rfl ?_ | refine zw ?_ | refine zdt ?_ | refine zdf ?_ | refine znt ?_ | refine znf ?_ | refine zcd ?_ | refine zci ?_ | refine zc3 ?_) <;> (conv => whnf)))
        refine hR 1 _ _ (by omega) ⟨_, _, ?_, 2, z1, z2, z3, any, by omega, rfl, hn, hok.pass, rfl, rfl⟩
        exact tL [0, 1]
      · have hs1 := step n.cap.b t.b hc
        have hx := shareD_in t.b n.cap.b
        have hn : (z1 + (if pack then shareD t.b n.cap.b else 100 - shareD t.b n.cap.b), minI z2 (shareD t.b n.cap.b), maxI z3 (shareD t.b n.cap.b)) = accD pack n.cap t 2 := by
          have e : accD pack n.cap t 2 = acc1 pack n.cap.b t.b (accD pack n.cap t 1) := rfl
          rw [e, ← hz]
          simp [acc1, hc]
        generalize shareD t.b n.cap.b = x at hs1 hx hn
        have hk2 := hok.take pack hx.1 hx.2
        cases pack
        all_goals ((conv => whnf); repeat ((first | refine SCall.app (Pure.go hs1 rfl) ?_ | refine SOpt.of (mn2 (z := minI z2 x) rfl) ?_ | refine SOpt.of (mx2 (z := maxI z3 x) rfl) ?_ | refine yf rfl ?_ | refine yt rfl ?_ | refine yo rfl ?_ | refine yc rfl ?_ | refine ys rfl ?_ | refine ye rfl ?_ | refine yn rfl ?_ | refine zw ?_ | refine zdt ?_ | refine zdf ?_ | refine znt ?_ | refine znf ?_ | refine zcd ?_ | refine zci ?_ | refine zc3 ?_) <;> (conv => whnf)))
        all_goals
          refine hR 1 _ _ (by omega) ⟨_, _, ?_, 2, _, _, _, true, by omega, rfl, hn, hk2, rfl, rfl⟩
          exact tL [0, 1]
    · by_cases hc : n.cap.c ≤ 0
      · have hn : (z1, z2, z3) = accD pack n.cap t 3 := by
          have e : accD pack n.cap t 3 = acc1 pack n.cap.c t.c (accD pack n.cap t 2) := rfl
          rw [e, ← hz]
          simp [acc1, hc]
        ((conv => whnf); repeat ((first | refine yf rfl ?_ | refine yt rfl ?_ | refine yo rfl ?_ | refine yc rfl ?_ | refine ys rfl ?_ | refine ye rfl ?_ | refine yn rfl ?_ | refine zw ?_ | refine zdt ?_ | refine zdf ?_ | refine znt ?_ | refine znf ?_ | refine zcd ?_ | refine zci ?_ | refine zc3 ?_) <;> (conv => whnf)))
        refine hR 0 _ _ (by omega) ⟨_, _, ?_, 3, z1, z2, z3, any, by omega, rfl, hn, hok.pass, rfl, rfl⟩
        exact tL [0, 1]
      · have hs1 := step n.cap.c t.c hc
        have hx := shareD_in t.c n.cap.c
        have hn : (z1 + (if pack then shareD t.c n.cap.c else 100 - shareD t.c n.cap.c), minI z2 (shareD t.c n.cap.c), maxI z3 (shareD t.c n.cap.c)) = accD pack n.cap t 3 := by
          have e : accD pack n.cap t 3 = acc1 pack n.cap.c t.c (accD pack n.cap t 2) := rfl
          rw [e, ← hz]
          simp [acc1, hc]
        generalize shareD t.c n.cap.c = x at hs1 hx hn
        have hk2 := hok.take pack hx.1 hx.2
        cases pack
        all_goals ((conv => whnf); repeat ((first | refine SCall.app (Pure.go hs1 rfl) ?_ | refine SOpt.of (mn2 (z := minI z2 x) rfl) ?_ | refine SOpt.of (mx2 (z := maxI z3 x) rfl) ?_ | refine yf rfl ?_ | refine yt rfl ?_ | refine yo rfl ?_ | refine yc rfl ?_ | refine ys rfl ?_ | refine ye rfl ?_ | refine yn rfl ?_ | refine zw ?_ | refine zdt ?_ | refine zdf ?_ | refine znt ?_ | refine znf ?_ | refine zcd ?_ | refine zci ?_ | refine zc3 ?_) <;> (conv => whnf)))
        all_goals
          refine hR 0 _ _ (by omega) ⟨_, _, ?_, 3, _, _, _, true, by omega, rfl, hn, hk2, rfl, rfl⟩
          exact tL [0, 1]
end
end Go.Eng
