/-
StateBack: without a pod, and with it again.
-/
import Derived.Test.YtbbaiopailpcdaaGreatWiE
set_option linter.unusedVariables false
set_option linter.unusedSimpArgs false
namespace Go.Eng
open Go
/-- An index that is turned into its range. -/
theorem ring (a : Int) {n : Nat} (hn : 0 < n) : (-(n : Int) < a.tmod n ∧ a.tmod n < n) ∧ ∃ j : Nat, j < n ∧ (a.tmod n + n).tmod n = j := by
  have hn' : (0 : Int) < n := by omega
  have h1 : a.tmod n < n := Int.tmod_lt_of_pos a hn'
  have h2 : -(n : Int) < a.tmod n := by
    have := Int.tmod_lt_of_pos (-a) hn'
    rw [Int.neg_tmod] at this
    omega
  refine ⟨⟨h2, h1⟩, (a.tmod n + n).toNat % n, Nat.mod_lt _ hn, ?_⟩
  obtain ⟨m, hm⟩ : ∃ m : Nat, a.tmod n + n = (m : Int) := ⟨(a.tmod n + n).toNat, by omega⟩
  rw [hm]
  rfl
/-- Pods that are as a program can hold them. -/
def GoodL (l : List PodD) : Prop := ∀ q ∈ l, q.fit ∧ PodRoom q
theorem GoodL.ok {l : List PodD} (h : GoodL l) (hl : l.length ≤ 100000) : (⟨[], l⟩ : StD).ok :=
  ⟨Nat.zero_le _, (show l.length ≤ _ by omega), (fun _ h => by cases h), fun p hp => (h p hp).1, (show l.length * 248 ≤ _ by omega)⟩
theorem small0 (l : List PodD) : Small ⟨[], l⟩ := fun _ h => by cases h
theorem GoodL.put {l : List PodD} (h : GoodL l) {p : PodD} (hp : p.fit ∧ PodRoom p) : GoodL (putL l p) := fun q hq => by
  rcases putL_mem hq with h1 | h1
  · exact h q h1
  · rw [h1]; exact hp
section
variable {P : Program} (hG : FnsOk P AF.fns.get)
include hG
theorem withL_ok (hI : InsOk P 56) {l : List PodD} {p : PodD} (h : GoodL l) (hl : l.length ≤ 100000) (hp : p.fit ∧ PodRoom p) : Pure P 15 [stV ⟨[], l⟩, .agg (podR p)] (· = stV ⟨[], putL l p⟩) :=
  with_ok hG hI ⟨[], l⟩ p (Nat.zero_le _) (h.ok hl) (small0 l) (fun q hq => (h q hq).2) hp.2 (by show l.length * 248 + 1000 ≤ _; omega)
theorem withoutL_ok {l : List PodD} (h : GoodL l) (hl : l.length ≤ 100000) (g : Str) : Pure P 16 [stV ⟨[], l⟩, .sl none 1 [strR g]] (· = stV ⟨[], l.filter fun q => !([g].any fun g => q.name == g)⟩) :=
  without_ok hG ⟨[], l⟩ [g] (Nat.zero_le _) (h.ok hl) (small0 l) (fun q hq => (h q hq).2) (by unfold LenOk; simp)
theorem eqL_ok {a b : List PodD} (ha : GoodL a) (hb : GoodL b) (la : a.length ≤ 100000) (lb : b.length ≤ 100000) : Pure P 17 [stV ⟨[], a⟩, stV ⟨[], b⟩] (· = .b (decide (a = b))) :=
  eqState0 hG a b (by unfold LenOk; omega) (by unfold LenOk; omega) (fun x hx => (ha x hx).1.toOk) (fun x hx => (hb x hx).1.toOk)
set_option maxHeartbeats 16000000 in
set_option maxRecDepth 20000 in
theorem stateBack_ok (hI : InsOk P 56) (hb : ACall P 8 [] noG (fun r _ => r = .b true)) (ps : List PodD) (at' : Int) (hl : LenOk ps) (hps : GoodL ps) :
    ACall P 5 [.sl none 16 (ps.map podR), .i .i64 at'] noG (fun r _ => r = .b true) := by
  have hlm : (ps.map podR).length = ps.length := List.length_map _
  unfold LenOk at hl
  refine fn_sz (hG _ AF.f5 rfl) rfl ?_
  ((conv => whnf); repeat ((first | refine yf rfl ?_ | refine yt rfl ?_ | refine yo rfl ?_ | refine yc rfl ?_ | refine ys rfl ?_ | refine ye rfl ?_ | refine yn rfl ?_ | refine zw ?_ | refine zdt ?_ | refine zdf ?_ | refine znt ?_ | refine znf ?_ | refine zcd ?_ | refine zci ?_ | refine zc3 ?_) <;> (conv => whnf)))
  refine ⟨hb.frame rfl fun v h' hv => ?_⟩
  subst hv
  refine ⟨rfl, ?_⟩
  ((conv => whnf); repeat ((first | refine yf rfl ?_ | refine yt rfl ?_ | refine yo rfl ?_ | refine yc rfl ?_ | refine ys rfl ?_ | refine ye rfl ?_ | refine yn rfl ?_ | refine zw ?_ | refine zdt ?_ | refine zdf ?_ | refine znt ?_ | refine znf ?_ | refine zcd ?_ | refine zci ?_ | refine zc3 ?_) <;> (conv => whnf)))
  refine SLoopZ.by (fun q fr st => ∃ (i : Nat) (l : List PodD), i ≤ ps.length ∧ i ≤ 12 ∧ q = ps.length - i ∧ l.length ≤ i ∧ Srt l ∧ GoodL l ∧
      fr = [(7, .i .i64 i), (6, .p (.l 0) 0), (1, .i .i64 at'), (0, .sl none 16 (ps.map podR))] ∧ st = ⟨noG, ⟨1, [(0, .cs [.sl none 6 [], .sl none 16 (l.map podR)])]⟩⟩)
    ps.length ⟨_, _, ?_, 0, [], Nat.zero_le _, Nat.zero_le _, rfl, Nat.zero_le _, List.Pairwise.nil, (fun _ h => by cases h), rfl, rfl⟩ ?_
  · exact tL [0]
  rintro q fr st ⟨i, l, hi, hi2, rfl, hil, hsrt, hgood, rfl, rfl⟩ R hR
  have hlm2 : (l.map podR).length = l.length := List.length_map _
  by_cases hin : i < ps.length ∧ i < 12
  · obtain ⟨hi1, hi3⟩ := hin
    have he := List.getElem?_eq_getElem hi1
    have hm := hps _ (List.getElem_mem hi1)
    generalize ps[i] = e at he hm
    have hw := withL_ok hG hI hgood (by omega) hm
    ((conv => whnf); repeat ((first | refine SCall.app (Pure.go hw rfl) ?_ | refine SEx.of (map_get' (by omega) he) ?_ | refine yf rfl ?_ | refine yt rfl ?_ | refine yo rfl ?_ | refine yc rfl ?_ | refine ys rfl ?_ | refine ye rfl ?_ | refine yn rfl ?_ | refine zw ?_ | refine zdt ?_ | refine zdf ?_ | refine znt ?_ | refine znf ?_ | refine zcd ?_ | refine zci ?_ | refine zc3 ?_) <;> (conv => whnf)))
    refine hR (ps.length - (i + 1)) _ _ (by omega) ⟨_, _, ?_, i + 1, putL l e, by omega, by omega, rfl, by have := (putL_len l e).1; omega, putL_srt hsrt e, hgood.put hm, rfl, rfl⟩
    exact tL [0]
  clear hR
  by_cases hne : l = []
  · subst hne
    by_cases h1 : i < ps.length
    · have h2 : ¬ i < 12 := fun h => hin ⟨h1, h⟩
      ((conv => whnf); repeat ((first | refine yf rfl ?_ | refine yt rfl ?_ | refine yo rfl ?_ | refine yc rfl ?_ | refine ys rfl ?_ | refine ye rfl ?_ | refine yn rfl ?_ | refine zw ?_ | refine zdt ?_ | refine zdf ?_ | refine znt ?_ | refine znf ?_ | refine zcd ?_ | refine zci ?_ | refine zc3 ?_) <;> (conv => whnf)))
    · ((conv => whnf); repeat ((first | refine yf rfl ?_ | refine yt rfl ?_ | refine yo rfl ?_ | refine yc rfl ?_ | refine ys rfl ?_ | refine ye rfl ?_ | refine yn rfl ?_ | refine zw ?_ | refine zdt ?_ | refine zdf ?_ | refine znt ?_ | refine znf ?_ | refine zcd ?_ | refine zci ?_ | refine zc3 ?_) <;> (conv => whnf)))
  have hpos : 0 < (l.map podR).length := by
    rw [hlm2]; exact List.length_pos_iff.2 hne
  obtain ⟨⟨b1, b2⟩, j, hj, b3⟩ := ring at' hpos
  have hjl : j < l.length := by omega
  have hp := List.getElem?_eq_getElem hjl
  have hpm := List.getElem_mem hjl
  generalize l[j] = p at hp hpm
  obtain ⟨k1, k2, k3⟩ := put_back hsrt hpm
  have hwo := withoutL_ok hG hgood (by omega) p.name
  have gt : GoodL (l.filter fun q => !([p.name].any fun g => q.name == g)) := fun q hq => hgood q (List.mem_filter.1 hq).1
  generalize l.filter (fun q => !([p.name].any fun g => q.name == g)) = t at k1 k2 hwo gt
  have hlm3 : (t.map podR).length = t.length := List.length_map _
  have hw1 := withL_ok hG hI gt (by omega) (hgood p hpm)
  have hw2 := withL_ok hG hI hgood (by omega) (hgood p hpm)
  rw [k2] at hw1
  rw [k3] at hw2
  have he1 := eqL_ok hG hgood hgood (by omega) (by omega)
  have he2 := eqL_ok hG gt hgood (by omega) (by omega)
  rw [decide_eq_true rfl] at he1
  rw [decide_eq_false (by rintro rfl; omega)] at he2
  have hz : (!decide (((l.map podR).length : Int) = 0)) = true := by rw [decide_eq_false (by omega)]; rfl
  have hlen : (((t.map podR).length : Nat) : Int) = ((l.map podR).length : Nat) - 1 := by omega
  have h12 : ¬ i < ps.length ∨ (i < ps.length ∧ ¬ i < 12) := by omega
  rcases h12 with h1 | ⟨h1, h2⟩
  all_goals (((conv => whnf); repeat ((first | refine SChk.mk hz ?_ | refine SCall.app (Pure.call1 hwo (by ((repeat (first | exact trivial | refine ⟨by first | exact ce1_free rfl | exact .inl .nil | exact .inl .tok | exact .inl (.rows (by ((repeat (first | exact .nil | refine .cons (by ((repeat (first | exact .nil | refine .cons (by first | exact .refl _ | exact .nil _) ?_)); first | done | fail)) ?_)); first | done | fail))) | exact .inr (.inl ⟨_, _, rfl, rfl, (by ((repeat (first | exact trivial | refine ⟨by first | exact ce_flat rfl | exact .nil | exact .tok | exact .ren rfl (Nat.le_of_ble_eq_true rfl) | exact .rows (by ((repeat (first | exact .nil | refine .cons (by ((repeat (first | exact .nil | refine .cons (by first | exact .refl _ | exact .nil _) ?_)); first | done | fail)) ?_)); first | done | fail)), ?_⟩)); first | done | fail))⟩), ?_⟩)); first | done | fail)) rfl) ?_ | refine SIf.nf hlen ?_ | refine SEx.of (map_get' (by omega) hp) ?_ | refine yf rfl ?_ | refine yt rfl ?_ | refine yo rfl ?_ | refine yc rfl ?_ | refine ys rfl ?_ | refine ye rfl ?_ | refine yn rfl ?_ | refine zw ?_ | refine zdt ?_ | refine zdf ?_ | refine znt ?_ | refine znf ?_ | refine zcd ?_ | refine zci ?_ | refine zc3 ?_) <;> (conv => whnf))))
  all_goals (
    refine SLoopZ.by (fun q fr st => ∃ m : Nat, 1 ≤ m ∧ m ≤ l.length ∧ q = l.length - m ∧
        fr = [(10, .i .i64 m), (9, .p (.l 2) 0), (8, .p (.l 1) 0), (6, .p (.l 0) 0)] ∧
        st = ⟨noG, ⟨3, [(2, .cs [.sl none 6 [], .sl none 16 (t.map podR)]), (1, .cs (podR p)), (0, .cs [.sl none 6 [], .sl none 16 (l.map podR)])]⟩⟩)
      (l.length - 1) ⟨_, _, ?_, 1, Nat.le_refl _, by omega, rfl, rfl, rfl⟩ ?_)
  all_goals first | (exact tL [0, 1, 3]) | skip
  all_goals (
    rintro q fr st ⟨m, hm1, hm2, rfl, rfl, rfl⟩ R hR
    by_cases hml : m < l.length
    · have hx := List.getElem?_eq_getElem (show m - 1 < l.length by omega)
      have hy := List.getElem?_eq_getElem hml
      generalize l[m - 1]'(by omega) = x at hx
      generalize l[m] = y at hy
      have hxy := pair_get hsrt (by omega : m - 1 < m) hx hy
      have hxy' : (!Op.bytesLess x.name y.name) = false := by rw [hxy]; rfl
      ((conv => whnf); repeat ((first | refine SIf.ff hxy' ?_ | refine SEx.of (map_get' (by omega) hx) ?_ | refine SEx.of (map_get' (by omega) hy) ?_ | refine yf rfl ?_ | refine yt rfl ?_ | refine yo rfl ?_ | refine yc rfl ?_ | refine ys rfl ?_ | refine ye rfl ?_ | refine yn rfl ?_ | refine zw ?_ | refine zdt ?_ | refine zdf ?_ | refine znt ?_ | refine znf ?_ | refine zcd ?_ | refine zci ?_ | refine zc3 ?_) <;> (conv => whnf)))
      refine hR (l.length - (m + 1)) _ _ (by omega) ⟨_, _, ?_, m + 1, by omega, by omega, rfl, rfl, rfl⟩
      exact tL [0, 1, 2]
    · ((conv => whnf); repeat ((first | refine SCall.app (Pure.go hw1 rfl) ?_ | refine SCall.app (Pure.go hw2 rfl) ?_ | refine SCall.app (Pure.go he1 rfl) ?_ | refine SCall.app (Pure.go he2 rfl) ?_ | refine yf rfl ?_ | refine yt rfl ?_ | refine yo rfl ?_ | refine yc rfl ?_ | refine ys rfl ?_ | refine ye rfl ?_ | refine yn rfl ?_ | refine zw ?_ | refine zdt ?_ | refine zdf ?_ | refine znt ?_ | refine znf ?_ | refine zcd ?_ | refine zci ?_ | refine zc3 ?_) <;> (conv => whnf)))
      rfl)
end
end Go.Eng
