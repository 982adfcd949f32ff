/-
AssumeOnce: of one pod one thing is taken for done at a time, until its time.
-/
import Derived.Test.YtcckglahpbmakaaGreatAsA
import Derived.Test.YtcckglahpbmakaaGreatArgX
set_option linter.unusedVariables false
set_option linter.unusedSimpArgs false
namespace Go.Eng
open Go
/-- What is handed in may be told less of, value by value. -/
def LeL : List V → List V → Prop
  | [], [] => True
  | u :: r, v :: q => (u = v ∨ Ce1 ren0 ⟨0, 0⟩ noFz u v) ∧ LeL r q
  | _, _ => False
theorem LeL.spec : ∀ {l r : List V}, LeL l r → l.length = r.length ∧ ∀ (j : Nat) (v : V), r[j]? = some v → ∃ u, l[j]? = some u ∧ (u = v ∨ Ce1 ren0 ⟨0, 0⟩ noFz u v)
  | [], [], _ => ⟨rfl, fun j v h => by simp at h⟩
  | [], _ :: _, h => h.elim
  | _ :: _, [], h => h.elim
  | u :: r, v :: q, h => by
    obtain ⟨h1, h2⟩ := h
    obtain ⟨c1, c2⟩ := LeL.spec h2
    refine ⟨by simp [c1], fun j x hj => ?_⟩
    cases j with
    | zero => simp at hj; subst hj; exact ⟨u, rfl, h1⟩
    | succ j => simp at hj; obtain ⟨y, hy, hc⟩ := c2 j x hj; exact ⟨y, by simpa using hy, hc⟩
theorem ACall.leq {P : Program} {f : Nat} {args args' : List V} {h : Heap} {K : V → Heap → Prop} (hr : LeL args args') (h0 : ACall P f args' h K) : ACall P f args h K := by
  refine ⟨h0.1, fun E w vs hnl hs hv => h0.2 E w vs hnl hs ?_⟩
  obtain ⟨c1, c2⟩ := hr.spec
  refine ⟨by have := hv.1; omega, fun j v x hj hx => ?_⟩
  obtain ⟨u, hu, hc | hc⟩ := c2 j v hj
  · subst hc; exact hv.2 j u x hu hx
  · exact ce1_nw hc (hv.2 j u x hu hx)
theorem wrap_next {t : Int} (h1 : -9223372036854775808 ≤ t) (h2 : t ≤ 9223372036854775807) : ¬ t = IntKind.i64.wrap (t + 1) := by
  by_cases c : t = 9223372036854775807
  · subst c; decide
  · rw [wrap_of_in (by simp [IntKind.min, IntKind.bits, IntKind.signed]; omega) (by simp [IntKind.max, IntKind.bits, IntKind.signed]; omega)]
    omega
theorem encPod_len {p : PodD} (hp : PodSmall p) : (encPod p).length ≤ 400000 := by
  have h1 := flatW_len encPort 2 p.ports fun _ _ => Nat.le_of_eq (numB_len _ _)
  have h2 := flatW_len encTol 17 p.tols fun t _ => Nat.le_of_eq (encTol_len t)
  have h3 := encPairs_len hp.labels
  have h4 := encTerms_len hp.sel hp.selv
  have h5 := encTerms_len hp.anti hp.antiv
  have h6 := encTerms_len hp.even hp.evenv
  have := hp.ports
  have := hp.tols
  unfold encPod encPorts encTols
  simp only [List.length_append, numB_len, encName_len, encRes_len]
  omega
theorem mpod_node {p : PodD} (hp : PodLen p) {n : Str} (hn : n.length ≤ 9223372036854775807) {t : Int} : PodLen { p with node := n, term := t } :=
  ⟨hp.name, hp.ports, hp.labels, hp.labelS, hp.sel, hp.tols, hp.tolS, hp.topo, hp.anti, hp.even, hn⟩
theorem podB_name {p : PodD} (h : podB p = true) : nameB p.name = true := by
  unfold podB at h
  simp only [Bool.and_eq_true] at h
  exact h.1
theorem podB_uid {p : PodD} (h : podB p = true) : 1 ≤ p.uid := by
  unfold podB at h
  simp only [Bool.and_eq_true, decide_eq_true_eq] at h
  omega
/-- The entry of a pod. -/
def enP1 (p : PodD) (rev : Int) : EnD := ⟨keyP p.name, rev, encPod p⟩
theorem enP1_ok {p : PodD} (h : podB p = true) (ht : p.term ≤ 9223372036854775807) (rev : Int) : EnOk (enP1 p rev) := by
  have h1 := encPod_len (pod_read h ht).small
  have h2 := (nameB_ok (podB_name h)).1
  exact ⟨by show (encPod p).length * 1 ≤ _; omega, by show (keyP p.name).length ≤ _; unfold keyP; simp; omega⟩
theorem keyP_inj {a b : Str} (h : keyP a = keyP b) : a = b := by
  unfold keyP at h
  simpa using h
theorem known_one {p : PodD} (hp : PodLen p) (h : podB p = true) (ht : p.term ≤ 9223372036854775807) (rev : Int) :
    KnownIs [enP1 p rev] (fun pod uid => decide (pod = p.name) && (decide (p.uid = uid) && decide (p.node = []))) := by
  intro pod uid
  by_cases c : pod = p.name
  · subst c
    refine .inr ⟨enP1 p rev, p, ?_, podB_name h, hp, h, ht, rfl, by simp⟩
    unfold keyQ
    rw [if_pos (podB_name h)]
    simp [getE, enP1]
  · refine .inl ⟨?_, by simp [c]⟩
    unfold keyQ
    by_cases c2 : nameB pod = true
    · rw [if_pos c2]
      have : ¬ keyP pod = keyP p.name := fun e => c (keyP_inj e)
      simp [getE, enP1, this]
    · rw [if_neg c2]
      simp [getE, enP1, keyP]
theorem known_none : KnownIs [] (fun _ _ => false) := fun _ _ => .inl ⟨rfl, rfl⟩
section
variable {P : Program} (hG : FnsOk P AF.fns.get)
include hG
theorem text_at {h : Heap} (s : Str) (hl : s.length ≤ 9223372036854775807) {K : V → Heap → Prop} (hK : ∀ t : Str, t.length ≤ 5 → K (.s t) h) : ACall P 29 [.s s, .i .i64 5] h K := by
  refine fn_sp (hG _ AF.f29 rfl) rfl ?_
  by_cases c : s.length ≤ 5
  · ((conv => whnf); repeat ((first | refine SOpt.of (mn2 (z := (s.length : Int)) (by split <;> omega)) ?_ | refine SChk.d3 (by omega) (by omega) (by omega) ?_ | refine yf rfl ?_ | refine yt rfl ?_ | refine yo rfl ?_ | refine yc rfl ?_ | refine ys rfl ?_ | refine ye rfl ?_ | refine yn rfl ?_ | refine zw ?_ | refine zdt ?_ | refine zdf ?_ | refine znt ?_ | refine znf ?_ | refine zcd ?_ | refine zci ?_ | refine zc3 ?_) <;> (conv => whnf)))
    exact hK _ (by simp; omega)
  · ((conv => whnf); repeat ((first | refine SOpt.of (mn2 (z := (5 : Int)) (by split <;> omega)) ?_ | refine SChk.d3 (by omega) (by omega) (by omega) ?_ | refine yf rfl ?_ | refine yt rfl ?_ | refine yo rfl ?_ | refine yc rfl ?_ | refine ys rfl ?_ | refine ye rfl ?_ | refine yn rfl ?_ | refine zw ?_ | refine zdt ?_ | refine zdf ?_ | refine znt ?_ | refine znf ?_ | refine zcd ?_ | refine zci ?_ | refine zc3 ?_) <;> (conv => whnf)))
    exact hK _ (by simp; omega)
theorem aput_nil {h : Heap} {a : Nat} {r : Option Nat} {L : List AsD} (ha : AsAt h a r L) (hl : L.length ≤ 100000) (pod node : Str) (uid term until_ : Int) {K : V → Heap → Prop}
    (hno : putA L ⟨pod, node, [], uid, term, until_⟩ = false → ∀ h', Heap.Keeps (fun _ => False) h h' → K (.b false) h')
    (hK : putA L ⟨pod, node, [], uid, term, until_⟩ = true → ∀ h' r', AsAt h' a r' (L ++ [⟨pod, node, [], uid, term, until_⟩]) → (∀ k, r' = some k → r = some k ∨ h.next ≤ k) → Heap.Keeps (fun n => n = a ∨ r = some n) h h' → K (.b true) h') :
    ACall P 25 [.p (.g a) 0, .agg [.s pod, .s node, .nils], .i .i64 uid, .i .i64 term, .i .i64 until_] h K :=
  ACall.leq (args' := [.p (.g a) 0, .agg [.s pod, .s node, .sl none 1 []], .i .i64 uid, .i .i64 term, .i .i64 until_]) (hr := ⟨.inl rfl, .inr (.inr (.inl ⟨_, _, rfl, rfl, (by ((repeat (first | exact trivial | refine ⟨by first | exact ce_flat rfl | exact .nil | exact .tok | exact .ren rfl (Nat.le_of_ble_eq_true rfl) | exact .rows (by ((repeat (first | exact .nil | refine .cons (by ((repeat (first | exact .nil | refine .cons (by first | exact .refl _ | exact .nil _) ?_)); first | done | fail)) ?_)); first | done | fail)), ?_⟩)); first | done | fail))⟩)), .inl rfl, .inl rfl, .inl rfl, trivial⟩) (h0 := aput_at hG ha hl ⟨pod, node, [], uid, term, until_⟩ (by simp) hno hK)
set_option maxHeartbeats 16000000 in
set_option maxRecDepth 20000 in
theorem assumeOnce_ok (hon : OnceOk P 161) (hb0 : ACall P 8 [] noG (fun r _ => r = .b true)) (p : PodD) (hp : PodLen p) (node : Str) (hn : node.length ≤ 9223372036854775807) (term until_ now : Int) (ht : -9223372036854775808 ≤ term ∧ term ≤ 9223372036854775807) :
    ACall P 6 [.agg (podR p), .s node, .i .i64 term, .i .i64 until_, .i .i64 now] noG (fun r _ => r = .b true) := by
  obtain ⟨p0, hp0⟩ : ∃ p0 : PodD, p0 = { p with node := [], term := 0 } := ⟨_, rfl⟩
  have hl0 : PodLen p0 := by rw [hp0]; exact mpod_node hp (by simp)
  have hrow : podR p0 = [.s p.name, .i .i64 p.uid, .i .i64 p.prio, .i .i64 p.req.a, .i .i64 p.req.b, .i .i64 p.req.c, .sl none 1 (p.ports.map intR), .sl none 2 (p.labels.map pairR), .sl none 3 (p.sel.map termR), .sl none 3 (p.tols.map tolR), .s p.topo, .sl none 3 (p.anti.map termR), .i .i64 p.skew, .sl none 3 (p.even.map termR), .s [], .i .i64 0] := by rw [hp0]; rfl
  have hnm : p0.name = p.name := by rw [hp0]
  have hui : p0.uid = p.uid := by rw [hp0]
  have hnd : p0.node = [] := by rw [hp0]
  have htm : p0.term ≤ 9223372036854775807 := by rw [hp0]; show (0 : Int) ≤ _; omega
  cases hb : podB p0 with
  | false =>
    have hput := fun K hK => put_no (K := K) (h := noG) hG p0 hl0 hb hK
    rw [hrow] at hput
    refine fn_sv (hG _ AF.f6 rfl) rfl ?_
    ((conv => whnf); repeat ((first | refine yf rfl ?_ | refine yt rfl ?_ | refine yo rfl ?_ | refine yc rfl ?_ | refine ys rfl ?_ | refine ye rfl ?_ | refine yn rfl ?_ | refine zw ?_ | refine zdt ?_ | refine zdf ?_ | refine znt ?_ | refine znf ?_ | refine zcd ?_ | refine zci ?_ | refine zc3 ?_) <;> (conv => whnf)))
    refine ⟨hb0.frame rfl fun v h' hv => ?_⟩
    subst hv
    refine ⟨rfl, ?_⟩
    ((conv => whnf); repeat ((first | refine SCall.app (hput _) ?_ | refine yf rfl ?_ | refine yt rfl ?_ | refine yo rfl ?_ | refine yc rfl ?_ | refine ys rfl ?_ | refine ye rfl ?_ | refine yn rfl ?_ | refine zw ?_ | refine zdt ?_ | refine zdf ?_ | refine znt ?_ | refine znf ?_ | refine zcd ?_ | refine zci ?_ | refine zc3 ?_) <;> (conv => whnf)))
    done
  | true =>
    have hput := fun K hK => put_yes (K := K) (h := noG) hG hon p0 hl0 hb htm hK
    rw [hrow] at hput
    have hbl := encPod_pos p0
    have hml : ((encPod p0).map byR).length = (encPod p0).length := List.length_map _
    have hnl : p.name.length ≤ 12 := by rw [← hnm]; exact (nameB_ok (podB_name hb)).1
    obtain ⟨w, hw1⟩ : ∃ w : Str → Int → Bool, w = fun pod uid => decide (pod = p0.name) && (decide (p0.uid = uid) && decide (p0.node = [])) := ⟨_, rfl⟩
    have hkn : KnownIs [enP1 p0 4] w := by rw [hw1]; exact known_one hl0 hb htm 4
    have hwt : w p.name p.uid = true := by rw [hw1]; simp [hnm, hui, hnd]
    refine fn_sv (hG _ AF.f6 rfl) rfl ?_
    ((conv => whnf); repeat ((first | refine yf rfl ?_ | refine yt rfl ?_ | refine yo rfl ?_ | refine yc rfl ?_ | refine ys rfl ?_ | refine ye rfl ?_ | refine yn rfl ?_ | refine zw ?_ | refine zdt ?_ | refine zdf ?_ | refine znt ?_ | refine znf ?_ | refine zcd ?_ | refine zci ?_ | refine zc3 ?_) <;> (conv => whnf)))
    refine ⟨hb0.frame rfl fun v h' hv => ?_⟩
    subst hv
    refine ⟨rfl, ?_⟩
    ((conv => whnf); repeat ((first | refine SCall.app (hput _) ?_ | refine yf rfl ?_ | refine yt rfl ?_ | refine yo rfl ?_ | refine yc rfl ?_ | refine ys rfl ?_ | refine ye rfl ?_ | refine yn rfl ?_ | refine zw ?_ | refine zdt ?_ | refine zdf ?_ | refine znt ?_ | refine znf ?_ | refine zcd ?_ | refine zci ?_ | refine zc3 ?_) <;> (conv => whnf)))
    intro h1 k1
    have htx := fun K hK => text_at (K := K) hG (h := h1) node hn hK
    ((conv => whnf); repeat ((first | refine SIf.df (show ¬ (((encPod p0).map byR).length : Int) = 0 by omega) ?_ | refine SCall.app (htx _) ?_ | refine yf rfl ?_ | refine yt rfl ?_ | refine yo rfl ?_ | refine yc rfl ?_ | refine ys rfl ?_ | refine ye rfl ?_ | refine yn rfl ?_ | refine zw ?_ | refine zdt ?_ | refine zdf ?_ | refine znt ?_ | refine znf ?_ | refine zcd ?_ | refine zci ?_ | refine zc3 ?_) <;> (conv => whnf)))
    intro tx htl
    obtain ⟨u, hu, hu1, hu2⟩ : ∃ u : Int, u = (if (1 : Int) < (if (1099511627776 : Int) < until_ then 1099511627776 else until_) then (if (1099511627776 : Int) < until_ then 1099511627776 else until_) else 1) ∧ 1 ≤ u ∧ u ≤ 1099511627776 := ⟨_, rfl, by split <;> split <;> omega, by split <;> split <;> omega⟩
    have hnw := fun K hK => anew_at (K := K) hG (h := h1) hK
    ((conv => whnf); repeat ((first | refine SChk.mk (decide_eq_true (show ((([110] : Str).length + tx.length : Nat) : Int) ≤ 9223372036854775807 by simp; omega)) ?_ | refine SOpt.of (mn2 rfl) ?_ | refine SOpt.of (mx2 hu.symm) ?_ | refine SCall.app (hnw _) ?_ | refine yf rfl ?_ | refine yt rfl ?_ | refine yo rfl ?_ | refine yc rfl ?_ | refine ys rfl ?_ | refine ye rfl ?_ | refine yn rfl ?_ | refine zw ?_ | refine zdt ?_ | refine zdf ?_ | refine znt ?_ | refine znf ?_ | refine zcd ?_ | refine zci ?_ | refine zc3 ?_) <;> (conv => whnf)))
    intro h2 a2 k2
    have hcn := fun K hK => cnew_at (K := K) hG (h := h2) hK
    ((conv => whnf); repeat ((first | refine SCall.app (hcn _) ?_ | refine yf rfl ?_ | refine yt rfl ?_ | refine yo rfl ?_ | refine yc rfl ?_ | refine ys rfl ?_ | refine ye rfl ?_ | refine yn rfl ?_ | refine zw ?_ | refine zdt ?_ | refine zdf ?_ | refine znt ?_ | refine znf ?_ | refine zcd ?_ | refine zci ?_ | refine zc3 ?_) <;> (conv => whnf)))
    intro h3 c3 k3
    have a3 := a2.keep k3 (fun x => x) (fun _ h _ => by cases h)
    have hac : h1.next < h2.next := a2.1
    have h23 : h2.next ≤ h3.next := k3.1
    have hcl : ∀ K : V → Heap → Prop, (∀ h' k, h3.next ≤ k → CacheAt h' h2.next (some k) 5 [enP1 p0 4] → Heap.Keeps (fun n => n = h2.next) h3 h' → K (.b true) h') →
        ACall P 26 [.p (.g h2.next) 0, .i .i64 5, .sl none 3 [[.s ([112, 47] ++ p.name), .i .i64 4, .sl none 1 ((encPod p0).map byR)]]] h3 K := by
      intro K hK
      have hok : (decide ((0 : Int) ≤ 5) && okE 5 [] [enP1 p0 4]) = true := by simp [okE, getE, enP1, keyP]
      have := clist_at (K := K) hG c3 [enP1 p0 4] (fun e he => by rw [List.mem_singleton.1 he]; exact enP1_ok hb htm 4) (by simp) 5 (fun h => by rw [hok] at h; cases h) (fun _ => hK)
      have hr : [enP1 p0 4].map enR = [[.s ([112, 47] ++ p.name), .i .i64 4, .sl none 1 ((encPod p0).map byR)]] := by rw [← hnm]; rfl
      rw [hr] at this
      exact this
    ((conv => whnf); repeat ((first | refine SChk.mk (decide_eq_true (show ((([112, 47] : Str).length + p.name.length : Nat) : Int) ≤ 9223372036854775807 by simp; omega)) ?_ | refine SCall.app (hcl _) ?_ | refine yf rfl ?_ | refine yt rfl ?_ | refine yo rfl ?_ | refine yc rfl ?_ | refine ys rfl ?_ | refine ye rfl ?_ | refine yn rfl ?_ | refine zw ?_ | refine zdt ?_ | refine zdf ?_ | refine znt ?_ | refine znf ?_ | refine zcd ?_ | refine zci ?_ | refine zc3 ?_) <;> (conv => whnf)))
    intro h4 k hk4 c4 k4
    have a4 := a3.keep k4 (Nat.ne_of_lt hac) (fun _ h _ => by cases h)
    obtain ⟨o, ho⟩ : ∃ o : AsD, o = ⟨p.name, [110] ++ tx, [], p.uid, term, u⟩ := ⟨_, rfl⟩
    have hyes : putA [] ⟨p.name, [110] ++ tx, [], p.uid, term, u⟩ = true := rfl
    have hp1 := fun (K : V → Heap → Prop) hK => aput_nil (K := K) hG a4 (by simp) p.name ([110] ++ tx) p.uid term u (fun h => by rw [hyes] at h; cases h) (fun _ => hK)
    ((conv => whnf); repeat ((first | refine SCall.app (hp1 _) ?_ | refine yf rfl ?_ | refine yt rfl ?_ | refine yo rfl ?_ | refine yc rfl ?_ | refine ys rfl ?_ | refine ye rfl ?_ | refine yn rfl ?_ | refine zw ?_ | refine zdt ?_ | refine zdf ?_ | refine znt ?_ | refine znf ?_ | refine zcd ?_ | refine zci ?_ | refine zc3 ?_) <;> (conv => whnf)))
    intro h5 r5 a5 hr5 k5
    rw [← ho, List.nil_append] at a5
    have c5 : CacheAt h5 h2.next (some k) 5 [enP1 p0 4] := c4.keepB k5 (by rintro (h | h); omega; cases h) (fun q hq => by cases hq; rintro (h | h); omega; cases h)
    have hno : putA [o] ⟨p.name, [111, 116, 104, 101, 114], [], p.uid, term, u + 5⟩ = false := by rw [ho]; simp [putA]
    have hp2 := fun (K : V → Heap → Prop) hK => aput_nil (K := K) hG a5 (by simp) p.name [111, 116, 104, 101, 114] p.uid term (u + 5) (fun _ => hK) (fun h => by rw [hno] at h; cases h)
    ((conv => whnf); repeat ((first | refine SWrap.w64 (by omega) (by omega) ?_ | refine SCall.app (hp2 _) ?_ | refine yf rfl ?_ | refine yt rfl ?_ | refine yo rfl ?_ | refine yc rfl ?_ | refine ys rfl ?_ | refine ye rfl ?_ | refine yn rfl ?_ | refine zw ?_ | refine zdt ?_ | refine zdf ?_ | refine znt ?_ | refine znf ?_ | refine zcd ?_ | refine zci ?_ | refine zc3 ?_) <;> (conv => whnf)))
    intro h6 k6
    have a6 := a5.keep k6 (fun x => x) (fun _ _ x => x)
    have c6 := c5.keep k6
    have hsep : ∀ q, r5 = some q → q ≠ h2.next ∧ some k ≠ some q := fun q hq => by
      have hq4 : h4.next ≤ q := by
        rcases hr5 q hq with e | e
        · cases e
        · exact e
      have hk5 : k < h4.next := by
        obtain ⟨_, ⟨h, _⟩ | ⟨mk, h, _, h', _⟩⟩ := c4
        · cases h
        · cases h; exact h'
      have := k4.1
      have := c3.1
      exact ⟨by omega, fun e => by cases e; omega⟩
    have hopod : ∀ x ∈ [o], x.pod.length ≤ 9223372036854775807 := fun x hx => by rw [List.mem_singleton.1 hx, ho]; exact hp.name
    have hEn : ∀ e ∈ [enP1 p0 4], EnOk e := fun e he => by rw [List.mem_singleton.1 he]; exact enP1_ok hb htm 4
    have hkeep1 : keepA (overA w (u - 1) term) [o] = [o] := by rw [ho]; unfold keepA overA; simp [hwt]; omega
    have hs1 := fun (K : V → Heap → Prop) hK => asettle_at (K := K) hG hon a6 (by simp) hopod c6 hEn hkn hsep (u - 1) term hK
    rw [hkeep1] at hs1
    ((conv => whnf); repeat ((first | refine SWrap.w64 (by omega) (by omega) ?_ | refine SCall.app (hs1 _) ?_ | refine yf rfl ?_ | refine yt rfl ?_ | refine yo rfl ?_ | refine yc rfl ?_ | refine ys rfl ?_ | refine ye rfl ?_ | refine yn rfl ?_ | refine zw ?_ | refine zdt ?_ | refine zdf ?_ | refine znt ?_ | refine znf ?_ | refine zcd ?_ | refine zci ?_ | refine zc3 ?_) <;> (conv => whnf)))
    intro h7 a7 k7
    have c7 : CacheAt h7 h2.next (some k) 5 [enP1 p0 4] := c6.keepB k7 (by rintro (h | h); omega; exact (hsep _ h).1 rfl) (fun q hq => by cases hq; rintro (h | h); omega; exact (hsep _ h).2 rfl)
    have hh1 := fun (K : V → Heap → Prop) hK => ahas_at (K := K) hG a7 (by simp) p.name hK
    have hany : ([o].any fun x => x.pod == p.name) = true := by rw [ho]; simp
    rw [hany] at hh1
    ((conv => whnf); repeat ((first | refine SCall.app (hh1 _) ?_ | refine yf rfl ?_ | refine yt rfl ?_ | refine yo rfl ?_ | refine yc rfl ?_ | refine ys rfl ?_ | refine ye rfl ?_ | refine yn rfl ?_ | refine zw ?_ | refine zdt ?_ | refine zdf ?_ | refine znt ?_ | refine znf ?_ | refine zcd ?_ | refine zci ?_ | refine zc3 ?_) <;> (conv => whnf)))
    intro h8 k8
    have a8 := a7.keep k8 (fun x => x) (fun _ _ x => x)
    have c8 := c7.keep k8
    ((conv => whnf); repeat ((first | refine yf rfl ?_ | refine yt rfl ?_ | refine yo rfl ?_ | refine yc rfl ?_ | refine ys rfl ?_ | refine ye rfl ?_ | refine yn rfl ?_ | refine zw ?_ | refine zdt ?_ | refine zdf ?_ | refine znt ?_ | refine znf ?_ | refine zcd ?_ | refine zci ?_ | refine zc3 ?_) <;> (conv => whnf)))
    refine SIf.ds (fun _ => ?_) (fun _ => ?_)
    · have hkeep2 : keepA (overA w u term) [o] = [] := by rw [ho]; unfold keepA overA; simp
      have hs2 := fun (K : V → Heap → Prop) hK => asettle_at (K := K) hG hon a8 (by simp) hopod c8 hEn hkn hsep u term hK
      rw [hkeep2] at hs2
      ((conv => whnf); repeat ((first | refine SCall.app (hs2 _) ?_ | refine yf rfl ?_ | refine yt rfl ?_ | refine yo rfl ?_ | refine yc rfl ?_ | refine ys rfl ?_ | refine ye rfl ?_ | refine yn rfl ?_ | refine zw ?_ | refine zdt ?_ | refine zdf ?_ | refine znt ?_ | refine znf ?_ | refine zcd ?_ | refine zci ?_ | refine zc3 ?_) <;> (conv => whnf)))
      intro h9 a9 k9
      have hh2 := fun (K : V → Heap → Prop) hK => ahas_at (K := K) hG a9 (by simp) p.name hK
      ((conv => whnf); repeat ((first | refine SCall.app (hh2 _) ?_ | refine yf rfl ?_ | refine yt rfl ?_ | refine yo rfl ?_ | refine yc rfl ?_ | refine ys rfl ?_ | refine ye rfl ?_ | refine yn rfl ?_ | refine zw ?_ | refine zdt ?_ | refine zdf ?_ | refine znt ?_ | refine znf ?_ | refine zcd ?_ | refine zci ?_ | refine zc3 ?_) <;> (conv => whnf)))
      intro h10 k10
      ((conv => whnf); repeat ((first | refine yf rfl ?_ | refine yt rfl ?_ | refine yo rfl ?_ | refine yc rfl ?_ | refine ys rfl ?_ | refine ye rfl ?_ | refine yn rfl ?_ | refine zw ?_ | refine zdt ?_ | refine zdf ?_ | refine znt ?_ | refine znf ?_ | refine zcd ?_ | refine zci ?_ | refine zc3 ?_) <;> (conv => whnf)))
      rfl
    · obtain ⟨t2, ht2⟩ : ∃ t2 : Int, t2 = IntKind.i64.wrap (term + 1) := ⟨_, rfl⟩
      have hne : ¬ term = t2 := by rw [ht2]; exact wrap_next ht.1 ht.2
      have hkeep2 : keepA (overA w 0 t2) [o] = [] := by rw [ho]; unfold keepA overA; simp [hne]
      have hs2 := fun (K : V → Heap → Prop) hK => asettle_at (K := K) hG hon a8 (by simp) hopod c8 hEn hkn hsep 0 t2 hK
      rw [hkeep2, ht2] at hs2
      ((conv => whnf); repeat ((first | refine SWrap.mk ?_ | refine SCall.app (hs2 _) ?_ | refine yf rfl ?_ | refine yt rfl ?_ | refine yo rfl ?_ | refine yc rfl ?_ | refine ys rfl ?_ | refine ye rfl ?_ | refine yn rfl ?_ | refine zw ?_ | refine zdt ?_ | refine zdf ?_ | refine znt ?_ | refine znf ?_ | refine zcd ?_ | refine zci ?_ | refine zc3 ?_) <;> (conv => whnf)))
      intro h9 a9 k9
      have hh2 := fun (K : V → Heap → Prop) hK => ahas_at (K := K) hG a9 (by simp) p.name hK
      ((conv => whnf); repeat ((first | refine SCall.app (hh2 _) ?_ | refine yf rfl ?_ | refine yt rfl ?_ | refine yo rfl ?_ | refine yc rfl ?_ | refine ys rfl ?_ | refine ye rfl ?_ | refine yn rfl ?_ | refine zw ?_ | refine zdt ?_ | refine zdf ?_ | refine znt ?_ | refine znf ?_ | refine zcd ?_ | refine zci ?_ | refine zc3 ?_) <;> (conv => whnf)))
      intro h10 k10
      have a10 := a9.keep k10 (fun x => x) (fun _ _ x => x)
      have hal := fun (K : V → Heap → Prop) hK => aall_at (K := K) hG a10 (by simp) (fun _ h => by cases h) hK
      ((conv => whnf); repeat ((first | refine SCall.app (hal _) ?_ | refine yf rfl ?_ | refine yt rfl ?_ | refine yo rfl ?_ | refine yc rfl ?_ | refine ys rfl ?_ | refine ye rfl ?_ | refine yn rfl ?_ | refine zw ?_ | refine zdt ?_ | refine zdf ?_ | refine znt ?_ | refine znf ?_ | refine zcd ?_ | refine zci ?_ | refine zc3 ?_) <;> (conv => whnf)))
      rintro lv (⟨rfl, _⟩ | rfl)
      · ((conv => whnf); repeat ((first | refine yf rfl ?_ | refine yt rfl ?_ | refine yo rfl ?_ | refine yc rfl ?_ | refine ys rfl ?_ | refine ye rfl ?_ | refine yn rfl ?_ | refine zw ?_ | refine zdt ?_ | refine zdf ?_ | refine znt ?_ | refine znf ?_ | refine zcd ?_ | refine zci ?_ | refine zc3 ?_) <;> (conv => whnf)))
        rfl
      · ((conv => whnf); repeat ((first | refine yf rfl ?_ | refine yt rfl ?_ | refine yo rfl ?_ | refine yc rfl ?_ | refine ys rfl ?_ | refine ye rfl ?_ | refine yn rfl ?_ | refine zw ?_ | refine zdt ?_ | refine zdf ?_ | refine znt ?_ | refine znf ?_ | refine zcd ?_ | refine zci ?_ | refine zc3 ?_) <;> (conv => whnf)))
        rfl
end
end Go.Eng
