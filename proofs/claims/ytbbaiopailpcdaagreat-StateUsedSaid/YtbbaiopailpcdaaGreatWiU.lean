/-
StateUsed: what is used on all nodes, and asked for by those who wait, is what all pods ask for.
-/
import Derived.Test.YtbbaiopailpcdaaGreatWiT
import Derived.Test.YtbbaiopailpcdaaGreatWiF
set_option linter.unusedVariables false
set_option linter.unusedSimpArgs false
namespace Go.Eng
open Go
theorem in64_may {r : ResD} (h : ResMay r) : r.ok := by
  have := h.a; have := h.b; have := h.c
  unfold ResD.ok in64
  omega
theorem ceM_putS {ρ : Ren} {b : Lim} {F : Fz} {S : List Str} {x : Str} (h : x ∉ S) : CeM ρ b F (mput (seenS S) (.s x) (.b true)) (seenS (S ++ [x])) := by
  rw [mputS_new h]; exact ceM_seenS _
section
variable {P : Program} (hG : FnsOk P AF.fns.get)
include hG
set_option maxHeartbeats 16000000 in
set_option maxRecDepth 20000 in
theorem stateUsed_ok (hI : InsOk P 56) (hb : ACall P 8 [] noG (fun r _ => r = .b true)) (ps : List PodD) (hl : LenOk ps) (hps : ∀ p ∈ ps, p.fit ∧ p.sok ∧ PodRoom p) :
    ACall P 7 [.sl none 16 (ps.map podR)] noG (fun r _ => r = .b true) := by
  have hlm : (ps.map podR).length = ps.length := List.length_map _
  unfold LenOk at hl
  refine fn_sz (hG _ AF.f7 rfl) rfl ?_
  ((conv => whnf); repeat ((first | refine yf rfl ?_ | refine yt rfl ?_ | refine yo rfl ?_ | refine yc rfl ?_ | refine ys rfl ?_ | refine ye rfl ?_ | refine yn rfl ?_ | refine zw ?_ | refine zdt ?_ | refine zdf ?_ | refine znt ?_ | refine znf ?_ | refine zcd ?_ | refine zci ?_ | refine zc3 ?_) <;> (conv => whnf)))
  refine ⟨hb.frame rfl fun v h' hv => ?_⟩
  subst hv
  refine ⟨rfl, ?_⟩
  ((conv => whnf); repeat ((first | refine yf rfl ?_ | refine yt rfl ?_ | refine yo rfl ?_ | refine yc rfl ?_ | refine ys rfl ?_ | refine ye rfl ?_ | refine yn rfl ?_ | refine zw ?_ | refine zdt ?_ | refine zdf ?_ | refine znt ?_ | refine znf ?_ | refine zcd ?_ | refine zci ?_ | refine zc3 ?_) <;> (conv => whnf)))
  refine SLoopZ.by (fun q fr st => ∃ (i : Nat) (l : List PodD), i ≤ ps.length ∧ i ≤ 12 ∧ q = ps.length - i ∧ l.length ≤ i ∧ GoodL l ∧ MayL l ∧
      fr = [(5, .i .i64 i), (4, .p (.l 0) 0), (0, .sl none 16 (ps.map podR))] ∧ st = ⟨noG, ⟨1, [(0, .cs [.sl none 6 [], .sl none 16 (l.map podR)])]⟩⟩)
    ps.length ⟨_, _, ?_, 0, [], Nat.zero_le _, Nat.zero_le _, rfl, Nat.zero_le _, (fun _ h => by cases h), (fun _ h => by cases h), rfl, rfl⟩ ?_
  · exact tL [0]
  rintro q fr st ⟨i, l, hi, hi2, rfl, hil, hgood, hmay, rfl, rfl⟩ R hR
  have hlm2 : (l.map podR).length = l.length := List.length_map _
  by_cases hin : i < ps.length ∧ i < 12
  · obtain ⟨hi1, hi3⟩ := hin
    have he := List.getElem?_eq_getElem hi1
    have hm := hps _ (List.getElem_mem hi1)
    generalize ps[i] = e at he hm
    have hw := withL_ok hG hI hgood (by omega) ⟨hm.1, hm.2.2⟩
    have hmp := rpod_ok hG e hm.1.toOk hm.2.1
    ((conv => whnf); repeat ((first | refine SEx.of (map_get' (by omega) he) ?_ | refine yf rfl ?_ | refine yt rfl ?_ | refine yo rfl ?_ | refine yc rfl ?_ | refine ys rfl ?_ | refine ye rfl ?_ | refine yn rfl ?_ | refine zw ?_ | refine zdt ?_ | refine zdf ?_ | refine znt ?_ | refine znf ?_ | refine zcd ?_ | refine zci ?_ | refine zc3 ?_) <;> (conv => whnf)))
    refine ⟨Pure.any hmp rfl fun r hr => ?_⟩
    cases r
    · ((conv => whnf); repeat ((first | refine yf rfl ?_ | refine yt rfl ?_ | refine yo rfl ?_ | refine yc rfl ?_ | refine ys rfl ?_ | refine ye rfl ?_ | refine yn rfl ?_ | refine zw ?_ | refine zdt ?_ | refine zdf ?_ | refine znt ?_ | refine znf ?_ | refine zcd ?_ | refine zci ?_ | refine zc3 ?_) <;> (conv => whnf)))
      refine hR (ps.length - (i + 1)) _ _ (by omega) ⟨_, _, ?_, i + 1, l, by omega, by omega, rfl, by omega, hgood, hmay, rfl, rfl⟩
      exact tL [0]
    · ((conv => whnf); repeat ((first | refine SCall.app (Pure.go hw rfl) ?_ | refine SEx.of (map_get' (by omega) he) ?_ | refine yf rfl ?_ | refine yt rfl ?_ | refine yo rfl ?_ | refine yc rfl ?_ | refine ys rfl ?_ | refine ye rfl ?_ | refine yn rfl ?_ | refine zw ?_ | refine zdt ?_ | refine zdf ?_ | refine znt ?_ | refine znf ?_ | refine zcd ?_ | refine zci ?_ | refine zc3 ?_) <;> (conv => whnf)))
      refine hR (ps.length - (i + 1)) _ _ (by omega) ⟨_, _, ?_, i + 1, putL l e, by omega, by omega, rfl, by have := (putL_len l e).1; omega, hgood.put ⟨hm.1, hm.2.2⟩, (fun q hq => by
        rcases putL_mem hq with h | h
        · exact hmay q h
        · rw [h]; exact (hr rfl).req), rfl, rfl⟩
      exact tL [0]
  clear hR
  have hgk := hgood.ok (by omega : l.length ≤ 100000)
  have hroom : ∀ q ∈ l, PodRoom q := fun q hq => (hgood q hq).2
  have hpend := pending_ok hG ⟨[], l⟩ hgk hroom (by show l.length ≤ 19; omega)
  obtain ⟨w, hw⟩ : ∃ w, w = pendL l := ⟨_, rfl⟩
  have hpe : pendL (⟨[], l⟩ : StD).pods = w := hw.symm
  rw [hpe] at hpend
  have hperm : w.Perm (l.filter fun q => q.node == []) := hw ▸ pendL_perm l
  have hwl : w.length ≤ l.length := by rw [hperm.length_eq]; exact List.length_filter_le _ _
  have hwm : MayL w := fun q hq => hmay q (List.mem_filter.1 (hperm.mem_iff.1 hq)).1
  have hlm3 : (w.map podR).length = w.length := List.length_map _
  have h12 : ¬ i < ps.length ∨ (i < ps.length ∧ ¬ i < 12) := by omega
  have hl12 : l.length ≤ 12 := by omega
  rcases h12 with h1 | ⟨h1, h2⟩
  all_goals (((conv => whnf); repeat ((first | refine yf rfl ?_ | refine yt rfl ?_ | refine yo rfl ?_ | refine yc rfl ?_ | refine ys rfl ?_ | refine ye rfl ?_ | refine yn rfl ?_ | refine zw ?_ | refine zdt ?_ | refine zdf ?_ | refine znt ?_ | refine znf ?_ | refine zcd ?_ | refine zci ?_ | refine zc3 ?_) <;> (conv => whnf))))
  all_goals (
    refine SLoopZ.by (fun q fr st => ∃ (m : Nat) (S : List Str) (A : ResD) (n : Int), m ≤ l.length ∧ q = l.length - m ∧ (∀ x ∈ S, (x == ([] : Str)) = false) ∧ (∀ (j : Nat) (q : PodD), j < m → l[j]? = some q → (q.node == ([] : Str)) = false → q.node ∈ S) ∧
        A = sumR (l.filter (inS S)) ∧ n = ((l.filter (inS S)).length : Nat) ∧
        fr = [(49, .i .i64 m), (48, .i .i64 (l.map podR).length), (8, .i .i64 n), (7, .p (.l 1) 0), (6, .m (.g 0)), (4, .p (.l 0) 0)] ∧
        st = ⟨⟨1, [(0, .mp none (seenS S))]⟩, ⟨2, [(1, .cs (resR A)), (0, .cs [.sl none 6 [], .sl none 16 (l.map podR)])]⟩⟩)
      l.length ⟨_, _, ?_, 0, [], ⟨0, 0, 0⟩, 0, Nat.zero_le _, rfl, (fun _ h => by cases h), (fun j q h => absurd h (Nat.not_lt_zero _)), ?_, ?_, rfl, rfl⟩ ?_)
  all_goals first | (exact tG [0] [0, 1]) | skip
  all_goals first | (have : l.filter (inS []) = [] := List.filter_eq_nil_iff.2 (fun q _ => by simp [inS]); rw [this]; rfl) | skip
  all_goals (
    rintro q fr st ⟨m, S, A, n, hm, rfl, hS, hcov, hA, hn, rfl, rfl⟩ R hR
    have hnl : (l.filter (inS S)).length ≤ l.length := List.length_filter_le _ _
    by_cases hml : m < l.length
    · have he := List.getElem?_eq_getElem hml
      generalize l[m] = e at he
      have hstep : ∀ T : List Str, (∀ x ∈ S, x ∈ T) → ((e.node == ([] : Str)) = false → e.node ∈ T) → ∀ (j : Nat) (q : PodD), j < m + 1 → l[j]? = some q → (q.node == ([] : Str)) = false → q.node ∈ T := fun T h0 h1 j q hj hq hne => by
        by_cases hjm : j < m
        · exact h0 _ (hcov j q hjm hq hne)
        · obtain rfl : j = m := by omega
          rw [he] at hq; cases hq
          exact h1 hne
      cases hce : (e.node == ([] : Str))
      · by_cases hx : e.node ∈ S
        · ((conv => whnf); repeat ((first | refine SIf.ff hce ?_ | refine SOpt.of (mfindS_some hx) ?_ | refine SEx.of (map_get' (by omega) he) ?_ | refine yf rfl ?_ | refine yt rfl ?_ | refine yo rfl ?_ | refine yc rfl ?_ | refine ys rfl ?_ | refine ye rfl ?_ | refine yn rfl ?_ | refine zw ?_ | refine zdt ?_ | refine zdf ?_ | refine znt ?_ | refine znf ?_ | refine zcd ?_ | refine zci ?_ | refine zc3 ?_) <;> (conv => whnf)))
          refine hR (l.length - (m + 1)) _ _ (by omega) ⟨_, _, ?_, m + 1, S, A, n, by omega, rfl, hS, hstep S (fun _ h => h) (fun _ => hx), hA, hn, rfl, rfl⟩
          exact tG [0] [0, 1] (hg := ⟨⟨Nat.le_of_ble_eq_true rfl, rfl, _, rfl, ⟨rfl, ceM_seenS _⟩⟩, trivial⟩)
        · have hus := used_ok hG ⟨[], l⟩ e.node hgk.pods (by show l.length * 24 ≤ _; omega) (fun q hq => (hgood q hq).1.req)
          have hon := on_ok hG ⟨[], l⟩ e.node hgk hroom
          have hu : usedD ⟨[], l⟩ e.node = some (sumR (onD ⟨[], l⟩ e.node)) := sumD_all (MayL.filter hmay _) (by
            have : (onD ⟨[], l⟩ e.node).length ≤ l.length := List.length_filter_le _ _
            omega)
          rw [hu] at hus
          have hol : (onD ⟨[], l⟩ e.node).length ≤ l.length := List.length_filter_le _ _
          have hom : MayL (onD ⟨[], l⟩ e.node) := MayL.filter hmay _
          obtain ⟨n1, n2⟩ := inS_new hx hce l
          have had := radd_ok hG A (sumR (onD ⟨[], l⟩ e.node))
          rw [hA, addD_sum (MayL.filter hmay _) hom (by omega) (by omega), ← hA] at had
          rw [← hA] at n1
          generalize onD ⟨[], l⟩ e.node = o at hus hon hol hom n1 n2 had
          have hlmo : (o.map podR).length = o.length := List.length_map _
          ((conv => whnf); repeat ((first | refine SIf.ff hce ?_ | refine SOpt.no (mfindS_none hx) ?_ | refine SCall.app (Pure.go hus rfl) ?_ | refine SCall.app (Pure.go had rfl) ?_ | refine SCall.app (Pure.go hon rfl) ?_ | refine SEx.of (map_get' (by omega) he) ?_ | refine yf rfl ?_ | refine yt rfl ?_ | refine yo rfl ?_ | refine yc rfl ?_ | refine ys rfl ?_ | refine ye rfl ?_ | refine yn rfl ?_ | refine zw ?_ | refine zdt ?_ | refine zdf ?_ | refine znt ?_ | refine znf ?_ | refine zcd ?_ | refine zci ?_ | refine zc3 ?_) <;> (conv => whnf)))
          refine hR (l.length - (m + 1)) _ _ (by omega) ⟨_, _, ?_, m + 1, S ++ [e.node], addR A (sumR o), n + ((o.map podR).length : Nat), by omega, rfl, (fun x hx => by
            rcases List.mem_append.1 hx with h | h
            · exact hS x h
            · rw [List.mem_singleton.1 h]; exact hce), hstep _ (fun _ h => List.mem_append.2 (.inl h)) (fun _ => List.mem_append.2 (.inr (List.mem_singleton.2 rfl))), n1.symm, by omega, rfl, rfl⟩
          exact tG [0] [0, 1] (hg := ⟨⟨Nat.le_of_ble_eq_true rfl, rfl, _, rfl, ⟨rfl, ceM_putS hx⟩⟩, trivial⟩)
      · ((conv => whnf); repeat ((first | refine SIf.tt hce ?_ | refine SEx.of (map_get' (by omega) he) ?_ | refine yf rfl ?_ | refine yt rfl ?_ | refine yo rfl ?_ | refine yc rfl ?_ | refine ys rfl ?_ | refine ye rfl ?_ | refine yn rfl ?_ | refine zw ?_ | refine zdt ?_ | refine zdf ?_ | refine znt ?_ | refine znf ?_ | refine zcd ?_ | refine zci ?_ | refine zc3 ?_) <;> (conv => whnf)))
        refine hR (l.length - (m + 1)) _ _ (by omega) ⟨_, _, ?_, m + 1, S, A, n, by omega, rfl, hS, hstep S (fun _ h => h) (fun h => by rw [hce] at h; cases h), hA, hn, rfl, rfl⟩
        exact tG [0] [0, 1] (hg := ⟨⟨Nat.le_of_ble_eq_true rfl, rfl, _, rfl, ⟨rfl, ceM_seenS _⟩⟩, trivial⟩)
    clear hR
    have hall : l.filter (inS S) = l.filter (fun q => !(q.node == [])) := List.filter_congr fun q hq => by
      cases hq0 : (q.node == ([] : Str)) with
      | false =>
        obtain ⟨j, hj⟩ := List.mem_iff_getElem?.1 hq
        have h1 := hcov j q (by have := (List.getElem?_eq_some_iff.1 hj).1; omega) hj hq0
        show inS S q = true
        exact List.any_eq_true.2 ⟨_, h1, by simp⟩
      | true =>
        show inS S q = false
        unfold inS
        rw [List.any_eq_false]
        intro x hx hqx
        have := hS x hx
        simp only [beq_iff_eq] at hqx hq0
        rw [← hqx, hq0] at this
        simp at this
    rw [hall] at hA hn
    obtain ⟨t1, t2⟩ := sumR_split (l := l) (h := fun _ => true) (f := fun q => !(q.node == [])) (g := fun q => q.node == []) fun q _ => by cases (q.node == ([] : Str)) <;> exact ⟨rfl, rfl⟩
    rw [← sumR_perm hperm, ← hA] at t1
    rw [← hperm.length_eq] at t2
    have hft : l.filter (fun _ => true) = l := List.filter_eq_self.2 (fun _ _ => rfl)
    rw [hft] at t1 t2
    ((conv => whnf); repeat ((first | refine yf rfl ?_ | refine yt rfl ?_ | refine yo rfl ?_ | refine yc rfl ?_ | refine ys rfl ?_ | refine ye rfl ?_ | refine yn rfl ?_ | refine zw ?_ | refine zdt ?_ | refine zdf ?_ | refine znt ?_ | refine znf ?_ | refine zcd ?_ | refine zci ?_ | refine zc3 ?_) <;> (conv => whnf)))
    refine SLoopZ.by (fun q fr st => ∃ (m : Nat) (b : Bool) (es : List ResD), m ≤ l.length ∧ q = l.length - m ∧ es = (l.take m).map (·.req) ∧ (b = false → es = []) ∧
        fr = [(93, .i .i64 m), (92, .i .i64 (l.map podR).length), (13, accV b 2 3 (es.map resR)), (8, .i .i64 n), (7, .p (.l 1) 0), (4, .p (.l 0) 0)] ∧
        st = accS b 2 [(1, .cs (resR A)), (0, .cs [.sl none 6 [], .sl none 16 (l.map podR)])])
      l.length ⟨_, _, ?_, 0, false, [], Nat.zero_le _, rfl, rfl, fun _ => rfl, rfl, rfl⟩ ?_
    · exact tL [0, 1]
    rintro q fr st ⟨m, b, es, hm, rfl, hes, hb0, rfl, rfl⟩ R hR
    have hesl : es.length ≤ m := by rw [hes, List.length_map]; exact List.length_take_le _ _
    by_cases hml : m < l.length
    · have he := List.getElem?_eq_getElem hml
      generalize l[m] = e at he
      have h1 : es ++ [e.req] = (l.take (m + 1)).map (·.req) := by rw [take_succ' he, List.map_append, ← hes]; rfl
      cases b
      · obtain rfl : es = [] := hb0 rfl
        ((conv => whnf); repeat ((first | refine SEx.of (map_get' (by omega) he) ?_ | refine yf rfl ?_ | refine yt rfl ?_ | refine yo rfl ?_ | refine yc rfl ?_ | refine ys rfl ?_ | refine ye rfl ?_ | refine yn rfl ?_ | refine zw ?_ | refine zdt ?_ | refine zdf ?_ | refine znt ?_ | refine znf ?_ | refine zcd ?_ | refine zci ?_ | refine zc3 ?_) <;> (conv => whnf)))
        refine hR (l.length - (m + 1)) _ _ (by omega) ⟨_, _, ?_, m + 1, true, [] ++ [e.req], by omega, rfl, h1, (fun h => by cases h), rfl, rfl⟩
        exact tL [0, 1, 3]
      · ((conv => whnf); repeat ((first | refine SEx.of (x := (es ++ [e.req]).map resR) (by rw [List.map_append]; rfl) ?_ | refine SChk.mk (by simp [roomOk]; omega) ?_ | refine SEx.of (map_get' (by omega) he) ?_ | refine yf rfl ?_ | refine yt rfl ?_ | refine yo rfl ?_ | refine yc rfl ?_ | refine ys rfl ?_ | refine ye rfl ?_ | refine yn rfl ?_ | refine zw ?_ | refine zdt ?_ | refine zdf ?_ | refine znt ?_ | refine znf ?_ | refine zcd ?_ | refine zci ?_ | refine zc3 ?_) <;> (conv => whnf)))
        refine hR (l.length - (m + 1)) _ _ (by omega) ⟨_, _, ?_, m + 1, true, es ++ [e.req], by omega, rfl, h1, (fun h => by cases h), rfl, rfl⟩
        exact tL [0, 1, 4]
    clear hR
    have hrs : es = l.map (·.req) := by rw [hes, List.take_of_length_le (by omega)]
    have hsum := rsum_ok hG es (by unfold LenOk; omega)
    rw [hrs, sumD_all hmay (by omega), ← hrs] at hsum
    have ho0 := on_ok hG ⟨[], l⟩ [] hgk hroom
    have hnil : onD ⟨[], l⟩ [] = [] := by
      unfold onD
      exact List.filter_eq_nil_iff.2 fun q _ => by simp
    rw [hnil] at ho0
    have hAA : (decide ((sumR l).a = (sumR l).a) && (decide ((sumR l).b = (sumR l).b) && (decide ((sumR l).c = (sumR l).c) && true))) = true := by simp
    cases b
    · obtain rfl : es = [] := hb0 rfl
      ((conv => whnf); repeat ((first | refine SCall.app (Pure.go hpend rfl) ?_ | refine yf rfl ?_ | refine yt rfl ?_ | refine yo rfl ?_ | refine yc rfl ?_ | refine ys rfl ?_ | refine ye rfl ?_ | refine yn rfl ?_ | refine zw ?_ | refine zdt ?_ | refine zdf ?_ | refine znt ?_ | refine znf ?_ | refine zcd ?_ | refine zci ?_ | refine zc3 ?_) <;> (conv => whnf)))
      refine SLoopZ.by (fun q fr st => ∃ (j : Nat) (B : ResD) (k : Int), j ≤ w.length ∧ q = w.length - j ∧ B = addR A (sumR (w.take j)) ∧ k = n + j ∧
          fr = [(109, .i .i64 j), (108, .i .i64 (w.map podR).length), (107, .sl none 16 (w.map podR)), (13, .sl none 3 (([] : List ResD).map resR)), (8, .i .i64 k), (7, .p (.l 1) 0), (4, .p (.l 0) 0)] ∧
          st = ⟨noG, ⟨2, [(1, .cs (resR B)), (0, .cs [.sl none 6 [], .sl none 16 (l.map podR)])]⟩⟩)
        w.length ⟨_, _, ?_, 0, A, n, Nat.zero_le _, rfl, ?_, by simp, rfl, rfl⟩ ?_
      · exact tL [0, 1]
      · cases A; simp [addR, sumR]
      rintro q fr st ⟨j, B, k, hj, rfl, hB, hk, rfl, rfl⟩ R hR
      have hwt : MayL (w.take j) := fun q hq => hwm q (List.mem_of_mem_take hq)
      have hwtl : (w.take j).length ≤ j := List.length_take_le _ _
      by_cases hjw : j < w.length
      · have he := List.getElem?_eq_getElem hjw
        have hem := hwm _ (List.getElem_mem hjw)
        generalize w[j] = e at he hem
        have hB' : B = sumR (l.filter (fun q => !(q.node == [])) ++ w.take j) := by rw [sumR_append, ← hA]; exact hB
        have had := radd_ok hG B e.req
        have hes1 : e.req = sumR [e] := by simp [sumR]
        have hmB : MayL (l.filter (fun q => !(q.node == [])) ++ w.take j) := fun q hq => by
          rcases List.mem_append.1 hq with h | h
          · exact MayL.filter hmay _ q h
          · exact hwt q h
        rw [hes1, hB', addD_sum hmB (fun q hq => by rw [List.mem_singleton.1 hq]; exact hem) (by
          rw [List.length_append]
          have : (l.filter (fun q => !(q.node == []))).length ≤ l.length := List.length_filter_le _ _
          omega) (by simp), ← hB', ← hes1] at had
        ((conv => whnf); repeat ((first | refine SCall.app (Pure.go had rfl) ?_ | refine SEx.of (map_get' (by omega) he) ?_ | refine yf rfl ?_ | refine yt rfl ?_ | refine yo rfl ?_ | refine yc rfl ?_ | refine ys rfl ?_ | refine ye rfl ?_ | refine yn rfl ?_ | refine zw ?_ | refine zdt ?_ | refine zdf ?_ | refine znt ?_ | refine znf ?_ | refine zcd ?_ | refine zci ?_ | refine zc3 ?_) <;> (conv => whnf)))
        refine hR (w.length - (j + 1)) _ _ (by omega) ⟨_, _, ?_, j + 1, addR B e.req, k + 1, by omega, rfl, ?_, by omega, rfl, rfl⟩
        · exact tL [0, 1]
        · rw [take_succ' he, sumR_append, hB]
          exact ext3 (by simp only [addR, sumR]; omega) (by simp only [addR, sumR]; omega) (by simp only [addR, sumR]; omega)
      clear hR
      have hBe : B = sumR l := by rw [hB, List.take_of_length_le (by omega), t1]
      subst hBe
      ((conv => whnf); repeat ((first | refine SCall.app (Pure.go hsum rfl) ?_ | refine SIf.tt hAA ?_ | refine SIf.dt (show k = ((l.map podR).length : Nat) by omega) ?_ | refine SCall.app (Pure.go ho0 rfl) ?_ | refine yf rfl ?_ | refine yt rfl ?_ | refine yo rfl ?_ | refine yc rfl ?_ | refine ys rfl ?_ | refine ye rfl ?_ | refine yn rfl ?_ | refine zw ?_ | refine zdt ?_ | refine zdf ?_ | refine znt ?_ | refine znf ?_ | refine zcd ?_ | refine zci ?_ | refine zc3 ?_) <;> (conv => whnf)))
      rfl
    · ((conv => whnf); repeat ((first | refine SCall.app (Pure.go hpend rfl) ?_ | refine yf rfl ?_ | refine yt rfl ?_ | refine yo rfl ?_ | refine yc rfl ?_ | refine ys rfl ?_ | refine ye rfl ?_ | refine yn rfl ?_ | refine zw ?_ | refine zdt ?_ | refine zdf ?_ | refine znt ?_ | refine znf ?_ | refine zcd ?_ | refine zci ?_ | refine zc3 ?_) <;> (conv => whnf)))
      refine SLoopZ.by (fun q fr st => ∃ (j : Nat) (B : ResD) (k : Int), j ≤ w.length ∧ q = w.length - j ∧ B = addR A (sumR (w.take j)) ∧ k = n + j ∧
          fr = [(109, .i .i64 j), (108, .i .i64 (w.map podR).length), (107, .sl none 16 (w.map podR)), (13, .sl none 3 (es.map resR)), (8, .i .i64 k), (7, .p (.l 1) 0), (4, .p (.l 0) 0)] ∧
          st = ⟨noG, ⟨2, [(1, .cs (resR B)), (0, .cs [.sl none 6 [], .sl none 16 (l.map podR)])]⟩⟩)
        w.length ⟨_, _, ?_, 0, A, n, Nat.zero_le _, rfl, ?_, by simp, rfl, rfl⟩ ?_
      · exact tL [0, 1]
      · cases A; simp [addR, sumR]
      rintro q fr st ⟨j, B, k, hj, rfl, hB, hk, rfl, rfl⟩ R hR
      have hwt : MayL (w.take j) := fun q hq => hwm q (List.mem_of_mem_take hq)
      have hwtl : (w.take j).length ≤ j := List.length_take_le _ _
      by_cases hjw : j < w.length
      · have he := List.getElem?_eq_getElem hjw
        have hem := hwm _ (List.getElem_mem hjw)
        generalize w[j] = e at he hem
        have hB' : B = sumR (l.filter (fun q => !(q.node == [])) ++ w.take j) := by rw [sumR_append, ← hA]; exact hB
        have had := radd_ok hG B e.req
        have hes1 : e.req = sumR [e] := by simp [sumR]
        have hmB : MayL (l.filter (fun q => !(q.node == [])) ++ w.take j) := fun q hq => by
          rcases List.mem_append.1 hq with h | h
          · exact MayL.filter hmay _ q h
          · exact hwt q h
        rw [hes1, hB', addD_sum hmB (fun q hq => by rw [List.mem_singleton.1 hq]; exact hem) (by
          rw [List.length_append]
          have : (l.filter (fun q => !(q.node == []))).length ≤ l.length := List.length_filter_le _ _
          omega) (by simp), ← hB', ← hes1] at had
        ((conv => whnf); repeat ((first | refine SCall.app (Pure.go had rfl) ?_ | refine SEx.of (map_get' (by omega) he) ?_ | refine yf rfl ?_ | refine yt rfl ?_ | refine yo rfl ?_ | refine yc rfl ?_ | refine ys rfl ?_ | refine ye rfl ?_ | refine yn rfl ?_ | refine zw ?_ | refine zdt ?_ | refine zdf ?_ | refine znt ?_ | refine znf ?_ | refine zcd ?_ | refine zci ?_ | refine zc3 ?_) <;> (conv => whnf)))
        refine hR (w.length - (j + 1)) _ _ (by omega) ⟨_, _, ?_, j + 1, addR B e.req, k + 1, by omega, rfl, ?_, by omega, rfl, rfl⟩
        · exact tL [0, 1]
        · rw [take_succ' he, sumR_append, hB]
          exact ext3 (by simp only [addR, sumR]; omega) (by simp only [addR, sumR]; omega) (by simp only [addR, sumR]; omega)
      clear hR
      have hBe : B = sumR l := by rw [hB, List.take_of_length_le (by omega), t1]
      subst hBe
      ((conv => whnf); repeat ((first | refine SCall.app (Pure.go hsum rfl) ?_ | refine SIf.tt hAA ?_ | refine SIf.dt (show k = ((l.map podR).length : Nat) by omega) ?_ | refine SCall.app (Pure.go ho0 rfl) ?_ | refine yf rfl ?_ | refine yt rfl ?_ | refine yo rfl ?_ | refine yc rfl ?_ | refine ys rfl ?_ | refine ye rfl ?_ | refine yn rfl ?_ | refine zw ?_ | refine zdt ?_ | refine zdf ?_ | refine znt ?_ | refine znf ?_ | refine zcd ?_ | refine zci ?_ | refine zc3 ?_) <;> (conv => whnf)))
      rfl)
end
end Go.Eng
