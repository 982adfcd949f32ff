/-
AssumeKnown: what is known to be done, or to be gone, is not taken for done any more.
-/
import Derived.Test.YtcckglahpbmakaaGreatAs10
set_option linter.unusedVariables false
set_option linter.unusedSimpArgs false
namespace Go.Eng
open Go
theorem tmod_cases (x : Int) : ∃ t : Int, t = x.tmod 4 ∧ -3 ≤ t ∧ t ≤ 3 ∧ (Int.tmod (t + 4) 4 = 0 ∨ Int.tmod (t + 4) 4 = 1 ∨ Int.tmod (t + 4) 4 = 2 ∨ Int.tmod (t + 4) 4 = 3) := by
  refine ⟨_, rfl, ?_, ?_, ?_⟩
  · have := Int.lt_tmod_of_pos x (show (0 : Int) < 4 by decide); omega
  · have := Int.tmod_lt_of_pos x (show (0 : Int) < 4 by decide); omega
  · have h1 := Int.lt_tmod_of_pos x (show (0 : Int) < 4 by decide)
    have h2 := Int.tmod_lt_of_pos x (show (0 : Int) < 4 by decide)
    have h3 := Int.tmod_lt_of_pos (x.tmod 4 + 4) (show (0 : Int) < 4 by decide)
    have h4 := Int.tmod_nonneg 4 (show 0 ≤ x.tmod 4 + 4 by omega)
    omega
theorem tmod_uid {u : Int} (h : 1 ≤ u) : 0 ≤ u.tmod 1000 ∧ u.tmod 1000 < 1000 :=
  ⟨Int.tmod_nonneg 1000 (by omega), Int.tmod_lt_of_pos u (by decide)⟩
theorem podB_bind {p : PodD} (h : podB p = true) {n : Str} {t : Int} (hn : nameB n = true) (ht : 0 < t) : podB { p with node := n, term := t } = true := by
  unfold podB nodeB topoB at h ⊢
  simp only [Bool.and_eq_true, decide_eq_true_eq, Bool.or_eq_true] at h ⊢
  obtain ⟨h1, h2, h3, h4, h5, h6, h7, h8, h9, h10, h11, h12⟩ := h
  exact ⟨h1, h2, h3, h4, h5, h6, h7, h8, h9, h10, h11, .inl ⟨hn, ht⟩⟩
theorem podB_uids {p : PodD} (h : podB p = true) {u : Int} (h1 : 1 ≤ u) (h2 : u ≤ 1000) : podB { p with uid := u } = true := by
  unfold podB nodeB topoB at h ⊢
  simp only [Bool.and_eq_true, decide_eq_true_eq, Bool.or_eq_true] at h ⊢
  obtain ⟨q1, _, _, h4, h5, h6, h7, h8, h9, h10, h11, h12⟩ := h
  exact ⟨q1, h1, by omega, h4, h5, h6, h7, h8, h9, h10, h11, h12⟩
section
variable {P : Program} (hG : FnsOk P AF.fns.get)
include hG
set_option maxHeartbeats 16000000 in
set_option maxRecDepth 20000 in
theorem assumeKnown_ok (hon : OnceOk P 161) (hb0 : ACall P 8 [] noG (fun r _ => r = .b true)) (p : PodD) (hp : PodLen p) (which : Int) :
    ACall P 5 [.agg (podR p), .i .i64 which] noG (fun r _ => r = .b true) := by
  obtain ⟨p0, hp0⟩ : ∃ p0 : PodD, p0 = { p with node := [], term := 0 } := ⟨_, rfl⟩
  have hl0 : PodLen p0 := by rw [hp0]; exact mpod_node hp (by simp)
  have hrow : podR p0 = [.s p.name, .i .i64 p.uid, .i .i64 p.prio, .i .i64 p.req.a, .i .i64 p.req.b, .i .i64 p.req.c, .sl none 1 (p.ports.map intR), .sl none 2 (p.labels.map pairR), .sl none 3 (p.sel.map termR), .sl none 3 (p.tols.map tolR), .s p.topo, .sl none 3 (p.anti.map termR), .i .i64 p.skew, .sl none 3 (p.even.map termR), .s [], .i .i64 0] := by rw [hp0]; rfl
  have hnm : p0.name = p.name := by rw [hp0]
  have hui : p0.uid = p.uid := by rw [hp0]
  have hnd : p0.node = [] := by rw [hp0]
  have htm : p0.term ≤ 9223372036854775807 := by rw [hp0]; show (0 : Int) ≤ _; omega
  cases hb : podB p0 with
  | false =>
    have hput := fun K hK => put_no (K := K) (h := noG) hG p0 hl0 hb hK
    rw [hrow] at hput
    refine fn_sv (hG _ AF.f5 rfl) rfl ?_
    ((conv => whnf); repeat ((first | refine yf rfl ?_ | refine yt rfl ?_ | refine yo rfl ?_ | refine yc rfl ?_ | refine ys rfl ?_ | refine ye rfl ?_ | refine yn rfl ?_ | refine zw ?_ | refine zdt ?_ | refine zdf ?_ | refine znt ?_ | refine znf ?_ | refine zcd ?_ | refine zci ?_ | refine zc3 ?_) <;> (conv => whnf)))
    refine ⟨hb0.frame rfl fun v h' hv => ?_⟩
    subst hv
    refine ⟨rfl, ?_⟩
    ((conv => whnf); repeat ((first | refine SCall.app (hput _) ?_ | refine yf rfl ?_ | refine yt rfl ?_ | refine yo rfl ?_ | refine yc rfl ?_ | refine ys rfl ?_ | refine ye rfl ?_ | refine yn rfl ?_ | refine zw ?_ | refine zdt ?_ | refine zdf ?_ | refine znt ?_ | refine znf ?_ | refine zcd ?_ | refine zci ?_ | refine zc3 ?_) <;> (conv => whnf)))
  | true =>
    have hput := fun K hK => put_yes (K := K) (h := noG) hG hon p0 hl0 hb htm hK
    rw [hrow] at hput
    have hbl := encPod_pos p0
    have hml : ((encPod p0).map byR).length = (encPod p0).length := List.length_map _
    have hnl : p.name.length ≤ 12 := by rw [← hnm]; exact (nameB_ok (podB_name hb)).1
    have hu1 : 1 ≤ p.uid := by rw [← hui]; exact podB_uid hb
    obtain ⟨hm1, hm2⟩ := tmod_uid hu1
    obtain ⟨t, ht, ht1, ht2, htc⟩ := tmod_cases which
    refine fn_sv (hG _ AF.f5 rfl) rfl ?_
    ((conv => whnf); repeat ((first | refine yf rfl ?_ | refine yt rfl ?_ | refine yo rfl ?_ | refine yc rfl ?_ | refine ys rfl ?_ | refine ye rfl ?_ | refine yn rfl ?_ | refine zw ?_ | refine zdt ?_ | refine zdf ?_ | refine znt ?_ | refine znf ?_ | refine zcd ?_ | refine zci ?_ | refine zc3 ?_) <;> (conv => whnf)))
    refine ⟨hb0.frame rfl fun v h' hv => ?_⟩
    subst hv
    refine ⟨rfl, ?_⟩
    ((conv => whnf); repeat ((first | refine SCall.app (hput _) ?_ | refine yf rfl ?_ | refine yt rfl ?_ | refine yo rfl ?_ | refine yc rfl ?_ | refine ys rfl ?_ | refine ye rfl ?_ | refine yn rfl ?_ | refine zw ?_ | refine zdt ?_ | refine zdf ?_ | refine znt ?_ | refine znf ?_ | refine zcd ?_ | refine zci ?_ | refine zc3 ?_) <;> (conv => whnf)))
    intro h1 k1
    have hnw := fun K hK => anew_at (K := K) hG (h := h1) hK
    ((conv => whnf); repeat ((first | refine SIf.df (show ¬ (((encPod p0).map byR).length : Int) = 0 by omega) ?_ | refine SCall.app (hnw _) ?_ | refine yf rfl ?_ | refine yt rfl ?_ | refine yo rfl ?_ | refine yc rfl ?_ | refine ys rfl ?_ | refine ye rfl ?_ | refine yn rfl ?_ | refine zw ?_ | refine zdt ?_ | refine zdf ?_ | refine znt ?_ | refine znf ?_ | refine zcd ?_ | refine zci ?_ | refine zc3 ?_) <;> (conv => whnf)))
    intro h2 a2 k2
    have hcn := fun K hK => cnew_at (K := K) hG (h := h2) hK
    ((conv => whnf); repeat ((first | refine SCall.app (hcn _) ?_ | refine yf rfl ?_ | refine yt rfl ?_ | refine yo rfl ?_ | refine yc rfl ?_ | refine ys rfl ?_ | refine ye rfl ?_ | refine yn rfl ?_ | refine zw ?_ | refine zdt ?_ | refine zdf ?_ | refine znt ?_ | refine znf ?_ | refine zcd ?_ | refine zci ?_ | refine zc3 ?_) <;> (conv => whnf)))
    intro h3 c3 k3
    have a3 := a2.keep k3 (fun x => x) (fun _ h _ => by cases h)
    have hac : h1.next < h2.next := a2.1
    have h23 : h2.next ≤ h3.next := k3.1
    obtain ⟨o, ho⟩ : ∃ o : AsD, o = ⟨p.name, [110], [], p.uid, 3, 1000⟩ := ⟨_, rfl⟩
    have hyes : putA [] ⟨p.name, [110], [], p.uid, 3, 1000⟩ = true := rfl
    have hp1 := fun (K : V → Heap → Prop) hK => aput_nil (K := K) hG a3 (by simp) p.name [110] p.uid 3 1000 (fun h => by rw [hyes] at h; cases h) (fun _ => hK)
    ((conv => whnf); repeat ((first | refine SCall.app (hp1 _) ?_ | refine yf rfl ?_ | refine yt rfl ?_ | refine yo rfl ?_ | refine yc rfl ?_ | refine ys rfl ?_ | refine ye rfl ?_ | refine yn rfl ?_ | refine zw ?_ | refine zdt ?_ | refine zdf ?_ | refine znt ?_ | refine znf ?_ | refine zcd ?_ | refine zci ?_ | refine zc3 ?_) <;> (conv => whnf)))
    intro h5 r5 a5 hr5 k5
    rw [← ho, List.nil_append] at a5
    have c5 : CacheAt h5 h2.next none (-1) [] := c3.keepB k5 (by rintro (h | h); omega; cases h) (fun q hq => by cases hq)
    have h35 : h3.next ≤ h5.next := k5.1
    have hsep0 : ∀ q, r5 = some q → h3.next ≤ q ∧ q < h5.next := fun q hq => by
      refine ⟨?_, ?_⟩
      · rcases hr5 q hq with e | e
        · cases e
        · exact e
      · obtain ⟨_, ⟨h, _⟩ | ⟨mk, _, h, _, h', _⟩⟩ := a5
        · rw [h] at hq; cases hq
        · rw [h] at hq; cases hq; exact h'
    have hopod : ∀ x ∈ [o], x.pod.length ≤ 9223372036854775807 := fun x hx => by rw [List.mem_singleton.1 hx, ho]; exact hp.name
    rcases htc with htc | htc | htc | htc
    · -- 0
      obtain ⟨q, hq⟩ : ∃ q : PodD, q = { p0 with node := [110], term := 3 } := ⟨_, rfl⟩
      have hqb : podB q = true := by rw [hq]; exact podB_bind hb (by decide) (by decide)
      have hql : PodLen q := by rw [hq]; exact mpod_node hl0 (by simp)
      have hqt : q.term ≤ 9223372036854775807 := by rw [hq]; show (3 : Int) ≤ _; omega
      have hqn : q.name = p.name := by rw [hq]; exact hnm
      have hqr : podR q = [.s p.name, .i .i64 p.uid, .i .i64 p.prio, .i .i64 p.req.a, .i .i64 p.req.b, .i .i64 p.req.c, .sl none 1 (p.ports.map intR), .sl none 2 (p.labels.map pairR), .sl none 3 (p.sel.map termR), .sl none 3 (p.tols.map tolR), .s p.topo, .sl none 3 (p.anti.map termR), .i .i64 p.skew, .sl none 3 (p.even.map termR), .s [110], .i .i64 3] := by rw [hq, hp0]; rfl
      have hput2 := fun K hK => put_yes (K := K) (h := h5) hG hon q hql hqb hqt hK
      rw [hqr] at hput2
      ((conv => whnf); repeat ((first | refine SWrap.w64 (by omega) (by omega) ?_ | refine SIf.dt (show Int.tmod (Int.tmod which 4 + 4) 4 = 0 by rw [← ht]; exact htc) ?_ | refine SIf.df (show ¬ Int.tmod (Int.tmod which 4 + 4) 4 = 1 by rw [← ht, htc]; decide) ?_ | refine SIf.df (show ¬ Int.tmod (Int.tmod which 4 + 4) 4 = 2 by rw [← ht, htc]; decide) ?_ | refine SIf.nt (show ¬ Int.tmod (Int.tmod which 4 + 4) 4 = 3 by rw [← ht, htc]; decide) ?_ | refine SWrap.w64 (by omega) (by omega) ?_ | refine SChk.mk (decide_eq_true (show ((([112, 47] : Str).length + p.name.length : Nat) : Int) ≤ 9223372036854775807 by simp; omega)) ?_ | refine SCall.app (hput2 _) ?_ | refine yf rfl ?_ | refine yt rfl ?_ | refine yo rfl ?_ | refine yc rfl ?_ | refine ys rfl ?_ | refine ye rfl ?_ | refine yn rfl ?_ | refine zw ?_ | refine zdt ?_ | refine zdf ?_ | refine znt ?_ | refine znf ?_ | refine zcd ?_ | refine zci ?_ | refine zc3 ?_) <;> (conv => whnf)))
      intro h6 k6
      have a6 := a5.keep k6 (fun x => x) (fun _ _ x => x)
      have c6 := c5.keep k6
      have h56 : h5.next ≤ h6.next := k6.1
      have hok : (decide ((0 : Int) ≤ 5) && okE 5 [] [enP1 q 1]) = true := by simp [okE, getE, enP1, keyP]
      have hcl : ∀ K : V → Heap → Prop, (∀ h' k, h6.next ≤ k → CacheAt h' h2.next (some k) 5 [enP1 q 1] → Heap.Keeps (fun n => n = h2.next) h6 h' → K (.b true) h') → ACall P 26 [.p (.g h2.next) 0, .i .i64 5, .sl none 3 [[.s ([112, 47] ++ p.name), .i .i64 1, .sl none 1 ((encPod q).map byR)]]] h6 K := by
        intro K hK
        have := clist_at (K := K) hG c6 [enP1 q 1] (fun e he => by rw [List.mem_singleton.1 he]; exact enP1_ok hqb hqt 1) (by simp) 5 (fun h => by rw [hok] at h; cases h) (fun _ => hK)
        have hr : [enP1 q 1].map enR = [[.s ([112, 47] ++ p.name), .i .i64 1, .sl none 1 ((encPod q).map byR)]] := by rw [← hqn]; rfl
        rw [hr] at this
        exact this
      ((conv => whnf); repeat ((first | refine SChk.mk (decide_eq_true (show ((([112, 47] : Str).length + p.name.length : Nat) : Int) ≤ 9223372036854775807 by simp; omega)) ?_ | refine SCall.app (hcl _) ?_ | refine yf rfl ?_ | refine yt rfl ?_ | refine yo rfl ?_ | refine yc rfl ?_ | refine ys rfl ?_ | refine ye rfl ?_ | refine yn rfl ?_ | refine zw ?_ | refine zdt ?_ | refine zdf ?_ | refine znt ?_ | refine znf ?_ | refine zcd ?_ | refine zci ?_ | refine zc3 ?_) <;> (conv => whnf)))
      intro h7 k hk7 c7 k7
      have a7 := a6.keep k7 (Nat.ne_of_lt hac) (fun q hq => by have := hsep0 q hq; intro (e : q = h2.next); have := c3.1; omega)
      have hsep : ∀ q, r5 = some q → q ≠ h2.next ∧ some k ≠ some q := fun q hq => by have := hsep0 q hq; have := c3.1; exact ⟨by omega, fun e => by cases e; omega⟩
      have hEn : ∀ e ∈ [enP1 q 1], EnOk e := fun e he => by rw [List.mem_singleton.1 he]; exact enP1_ok hqb hqt 1
      obtain ⟨w, hw1⟩ : ∃ w : Str → Int → Bool, w = fun pod uid => decide (pod = q.name) && (decide (q.uid = uid) && decide (q.node = [])) := ⟨_, rfl⟩
      have hkn : KnownIs [enP1 q 1] w := by rw [hw1]; exact known_one hql hqb hqt 1
      have hwt : w p.name p.uid = false := by rw [hw1, hq]; simp [hnm, hui, hnd]
      have hkp : keepA (overA w 5 3) [o] = [] := by rw [ho]; unfold keepA overA; simp [hwt]
      have hs1 := fun (K : V → Heap → Prop) hK => asettle_at (K := K) hG hon a7 (by simp) hopod c7 hEn hkn hsep 5 3 hK
      rw [hkp] at hs1
      ((conv => whnf); repeat ((first | refine SCall.app (hs1 _) ?_ | refine yf rfl ?_ | refine yt rfl ?_ | refine yo rfl ?_ | refine yc rfl ?_ | refine ys rfl ?_ | refine ye rfl ?_ | refine yn rfl ?_ | refine zw ?_ | refine zdt ?_ | refine zdf ?_ | refine znt ?_ | refine znf ?_ | refine zcd ?_ | refine zci ?_ | refine zc3 ?_) <;> (conv => whnf)))
      intro h8 a8 k8
      have hh1 := fun (K : V → Heap → Prop) hK => ahas_at (K := K) hG a8 (by simp) p.name hK
      have hany : (([] : List AsD).any fun x => x.pod == p.name) = false := by rfl
      rw [hany] at hh1
      ((conv => whnf); repeat ((first | refine SCall.app (hh1 _) ?_ | refine yf rfl ?_ | refine yt rfl ?_ | refine yo rfl ?_ | refine yc rfl ?_ | refine ys rfl ?_ | refine ye rfl ?_ | refine yn rfl ?_ | refine zw ?_ | refine zdt ?_ | refine zdf ?_ | refine znt ?_ | refine znf ?_ | refine zcd ?_ | refine zci ?_ | refine zc3 ?_) <;> (conv => whnf)))
      intro h9 k9
      ((conv => whnf); repeat ((first | refine yf rfl ?_ | refine yt rfl ?_ | refine yo rfl ?_ | refine yc rfl ?_ | refine ys rfl ?_ | refine ye rfl ?_ | refine yn rfl ?_ | refine zw ?_ | refine zdt ?_ | refine zdf ?_ | refine znt ?_ | refine znf ?_ | refine zcd ?_ | refine zci ?_ | refine zc3 ?_) <;> (conv => whnf)))
      rfl
    · -- 1
      obtain ⟨q, hq⟩ : ∃ q : PodD, q = { p0 with uid := 1 + p.uid.tmod 1000 } := ⟨_, rfl⟩
      have hqb : podB q = true := by rw [hq]; exact podB_uids hb (by omega) (by omega)
      have hql : PodLen q := by rw [hq]; exact ⟨hl0.name, hl0.ports, hl0.labels, hl0.labelS, hl0.sel, hl0.tols, hl0.tolS, hl0.topo, hl0.anti, hl0.even, hl0.node⟩
      have hqt : q.term ≤ 9223372036854775807 := by rw [hq]; exact htm
      have hqn : q.name = p.name := by rw [hq]; exact hnm
      have hqr : podR q = [.s p.name, .i .i64 (1 + p.uid.tmod 1000), .i .i64 p.prio, .i .i64 p.req.a, .i .i64 p.req.b, .i .i64 p.req.c, .sl none 1 (p.ports.map intR), .sl none 2 (p.labels.map pairR), .sl none 3 (p.sel.map termR), .sl none 3 (p.tols.map tolR), .s p.topo, .sl none 3 (p.anti.map termR), .i .i64 p.skew, .sl none 3 (p.even.map termR), .s [], .i .i64 0] := by rw [hq, hp0]; rfl
      have hput2 := fun K hK => put_yes (K := K) (h := h5) hG hon q hql hqb hqt hK
      rw [hqr] at hput2
      by_cases hqu : 1 + p.uid.tmod 1000 = p.uid
      · -- the same
        ((conv => whnf); repeat ((first | refine SWrap.w64 (by omega) (by omega) ?_ | refine SIf.df (show ¬ Int.tmod (Int.tmod which 4 + 4) 4 = 0 by rw [← ht, htc]; decide) ?_ | refine SIf.dt (show Int.tmod (Int.tmod which 4 + 4) 4 = 1 by rw [← ht]; exact htc) ?_ | refine SIf.df (show ¬ Int.tmod (Int.tmod which 4 + 4) 4 = 2 by rw [← ht, htc]; decide) ?_ | refine SIf.nt (show ¬ Int.tmod (Int.tmod which 4 + 4) 4 = 3 by rw [← ht, htc]; decide) ?_ | refine SIf.dt hqu ?_ | refine SChk.mk (decide_eq_true (show ((([112, 47] : Str).length + p.name.length : Nat) : Int) ≤ 9223372036854775807 by simp; omega)) ?_ | refine SCall.app (hput2 _) ?_ | refine yf rfl ?_ | refine yt rfl ?_ | refine yo rfl ?_ | refine yc rfl ?_ | refine ys rfl ?_ | refine ye rfl ?_ | refine yn rfl ?_ | refine zw ?_ | refine zdt ?_ | refine zdf ?_ | refine znt ?_ | refine znf ?_ | refine zcd ?_ | refine zci ?_ | refine zc3 ?_) <;> (conv => whnf)))
        intro h6 k6
        have a6 := a5.keep k6 (fun x => x) (fun _ _ x => x)
        have c6 := c5.keep k6
        have h56 : h5.next ≤ h6.next := k6.1
        have hok : (decide ((0 : Int) ≤ 5) && okE 5 [] [enP1 q 1]) = true := by simp [okE, getE, enP1, keyP]
        have hcl : ∀ K : V → Heap → Prop, (∀ h' k, h6.next ≤ k → CacheAt h' h2.next (some k) 5 [enP1 q 1] → Heap.Keeps (fun n => n = h2.next) h6 h' → K (.b true) h') → ACall P 26 [.p (.g h2.next) 0, .i .i64 5, .sl none 3 [[.s ([112, 47] ++ p.name), .i .i64 1, .sl none 1 ((encPod q).map byR)]]] h6 K := by
          intro K hK
          have := clist_at (K := K) hG c6 [enP1 q 1] (fun e he => by rw [List.mem_singleton.1 he]; exact enP1_ok hqb hqt 1) (by simp) 5 (fun h => by rw [hok] at h; cases h) (fun _ => hK)
          have hr : [enP1 q 1].map enR = [[.s ([112, 47] ++ p.name), .i .i64 1, .sl none 1 ((encPod q).map byR)]] := by rw [← hqn]; rfl
          rw [hr] at this
          exact this
        ((conv => whnf); repeat ((first | refine SChk.mk (decide_eq_true (show ((([112, 47] : Str).length + p.name.length : Nat) : Int) ≤ 9223372036854775807 by simp; omega)) ?_ | refine SCall.app (hcl _) ?_ | refine yf rfl ?_ | refine yt rfl ?_ | refine yo rfl ?_ | refine yc rfl ?_ | refine ys rfl ?_ | refine ye rfl ?_ | refine yn rfl ?_ | refine zw ?_ | refine zdt ?_ | refine zdf ?_ | refine znt ?_ | refine znf ?_ | refine zcd ?_ | refine zci ?_ | refine zc3 ?_) <;> (conv => whnf)))
        intro h7 k hk7 c7 k7
        have a7 := a6.keep k7 (Nat.ne_of_lt hac) (fun q hq => by have := hsep0 q hq; intro (e : q = h2.next); have := c3.1; omega)
        have hsep : ∀ q, r5 = some q → q ≠ h2.next ∧ some k ≠ some q := fun q hq => by have := hsep0 q hq; have := c3.1; exact ⟨by omega, fun e => by cases e; omega⟩
        have hEn : ∀ e ∈ [enP1 q 1], EnOk e := fun e he => by rw [List.mem_singleton.1 he]; exact enP1_ok hqb hqt 1
        obtain ⟨w, hw1⟩ : ∃ w : Str → Int → Bool, w = fun pod uid => decide (pod = q.name) && (decide (q.uid = uid) && decide (q.node = [])) := ⟨_, rfl⟩
        have hkn : KnownIs [enP1 q 1] w := by rw [hw1]; exact known_one hql hqb hqt 1
        have hwt : w p.name p.uid = true := by rw [hw1, hq]; simp [hnm, hui, hnd, hqu]
        have hkp : keepA (overA w 5 3) [o] = [o] := by rw [ho]; unfold keepA overA; simp [hwt]
        have hs1 := fun (K : V → Heap → Prop) hK => asettle_at (K := K) hG hon a7 (by simp) hopod c7 hEn hkn hsep 5 3 hK
        rw [hkp] at hs1
        ((conv => whnf); repeat ((first | refine SCall.app (hs1 _) ?_ | refine yf rfl ?_ | refine yt rfl ?_ | refine yo rfl ?_ | refine yc rfl ?_ | refine ys rfl ?_ | refine ye rfl ?_ | refine yn rfl ?_ | refine zw ?_ | refine zdt ?_ | refine zdf ?_ | refine znt ?_ | refine znf ?_ | refine zcd ?_ | refine zci ?_ | refine zc3 ?_) <;> (conv => whnf)))
        intro h8 a8 k8
        have hh1 := fun (K : V → Heap → Prop) hK => ahas_at (K := K) hG a8 (by simp) p.name hK
        have hany : (([o] : List AsD).any fun x => x.pod == p.name) = true := by rw [ho]; simp
        rw [hany] at hh1
        ((conv => whnf); repeat ((first | refine SCall.app (hh1 _) ?_ | refine yf rfl ?_ | refine yt rfl ?_ | refine yo rfl ?_ | refine yc rfl ?_ | refine ys rfl ?_ | refine ye rfl ?_ | refine yn rfl ?_ | refine zw ?_ | refine zdt ?_ | refine zdf ?_ | refine znt ?_ | refine znf ?_ | refine zcd ?_ | refine zci ?_ | refine zc3 ?_) <;> (conv => whnf)))
        intro h9 k9
        ((conv => whnf); repeat ((first | refine yf rfl ?_ | refine yt rfl ?_ | refine yo rfl ?_ | refine yc rfl ?_ | refine ys rfl ?_ | refine ye rfl ?_ | refine yn rfl ?_ | refine zw ?_ | refine zdt ?_ | refine zdf ?_ | refine znt ?_ | refine znf ?_ | refine zcd ?_ | refine zci ?_ | refine zc3 ?_) <;> (conv => whnf)))
        rfl
      · -- another one
        ((conv => whnf); repeat ((first | refine SWrap.w64 (by omega) (by omega) ?_ | refine SIf.df (show ¬ Int.tmod (Int.tmod which 4 + 4) 4 = 0 by rw [← ht, htc]; decide) ?_ | refine SIf.dt (show Int.tmod (Int.tmod which 4 + 4) 4 = 1 by rw [← ht]; exact htc) ?_ | refine SIf.df (show ¬ Int.tmod (Int.tmod which 4 + 4) 4 = 2 by rw [← ht, htc]; decide) ?_ | refine SIf.nt (show ¬ Int.tmod (Int.tmod which 4 + 4) 4 = 3 by rw [← ht, htc]; decide) ?_ | refine SIf.df hqu ?_ | refine SChk.mk (decide_eq_true (show ((([112, 47] : Str).length + p.name.length : Nat) : Int) ≤ 9223372036854775807 by simp; omega)) ?_ | refine SCall.app (hput2 _) ?_ | refine yf rfl ?_ | refine yt rfl ?_ | refine yo rfl ?_ | refine yc rfl ?_ | refine ys rfl ?_ | refine ye rfl ?_ | refine yn rfl ?_ | refine zw ?_ | refine zdt ?_ | refine zdf ?_ | refine znt ?_ | refine znf ?_ | refine zcd ?_ | refine zci ?_ | refine zc3 ?_) <;> (conv => whnf)))
        intro h6 k6
        have a6 := a5.keep k6 (fun x => x) (fun _ _ x => x)
        have c6 := c5.keep k6
        have h56 : h5.next ≤ h6.next := k6.1
        have hok : (decide ((0 : Int) ≤ 5) && okE 5 [] [enP1 q 1]) = true := by simp [okE, getE, enP1, keyP]
        have hcl : ∀ K : V → Heap → Prop, (∀ h' k, h6.next ≤ k → CacheAt h' h2.next (some k) 5 [enP1 q 1] → Heap.Keeps (fun n => n = h2.next) h6 h' → K (.b true) h') → ACall P 26 [.p (.g h2.next) 0, .i .i64 5, .sl none 3 [[.s ([112, 47] ++ p.name), .i .i64 1, .sl none 1 ((encPod q).map byR)]]] h6 K := by
          intro K hK
          have := clist_at (K := K) hG c6 [enP1 q 1] (fun e he => by rw [List.mem_singleton.1 he]; exact enP1_ok hqb hqt 1) (by simp) 5 (fun h => by rw [hok] at h; cases h) (fun _ => hK)
          have hr : [enP1 q 1].map enR = [[.s ([112, 47] ++ p.name), .i .i64 1, .sl none 1 ((encPod q).map byR)]] := by rw [← hqn]; rfl
          rw [hr] at this
          exact this
        ((conv => whnf); repeat ((first | refine SChk.mk (decide_eq_true (show ((([112, 47] : Str).length + p.name.length : Nat) : Int) ≤ 9223372036854775807 by simp; omega)) ?_ | refine SCall.app (hcl _) ?_ | refine yf rfl ?_ | refine yt rfl ?_ | refine yo rfl ?_ | refine yc rfl ?_ | refine ys rfl ?_ | refine ye rfl ?_ | refine yn rfl ?_ | refine zw ?_ | refine zdt ?_ | refine zdf ?_ | refine znt ?_ | refine znf ?_ | refine zcd ?_ | refine zci ?_ | refine zc3 ?_) <;> (conv => whnf)))
        intro h7 k hk7 c7 k7
        have a7 := a6.keep k7 (Nat.ne_of_lt hac) (fun q hq => by have := hsep0 q hq; intro (e : q = h2.next); have := c3.1; omega)
        have hsep : ∀ q, r5 = some q → q ≠ h2.next ∧ some k ≠ some q := fun q hq => by have := hsep0 q hq; have := c3.1; exact ⟨by omega, fun e => by cases e; omega⟩
        have hEn : ∀ e ∈ [enP1 q 1], EnOk e := fun e he => by rw [List.mem_singleton.1 he]; exact enP1_ok hqb hqt 1
        obtain ⟨w, hw1⟩ : ∃ w : Str → Int → Bool, w = fun pod uid => decide (pod = q.name) && (decide (q.uid = uid) && decide (q.node = [])) := ⟨_, rfl⟩
        have hkn : KnownIs [enP1 q 1] w := by rw [hw1]; exact known_one hql hqb hqt 1
        have hwt : w p.name p.uid = false := by rw [hw1, hq]; simp [hnm, hui, hnd, hqu]
        have hkp : keepA (overA w 5 3) [o] = [] := by rw [ho]; unfold keepA overA; simp [hwt]
        have hs1 := fun (K : V → Heap → Prop) hK => asettle_at (K := K) hG hon a7 (by simp) hopod c7 hEn hkn hsep 5 3 hK
        rw [hkp] at hs1
        ((conv => whnf); repeat ((first | refine SCall.app (hs1 _) ?_ | refine yf rfl ?_ | refine yt rfl ?_ | refine yo rfl ?_ | refine yc rfl ?_ | refine ys rfl ?_ | refine ye rfl ?_ | refine yn rfl ?_ | refine zw ?_ | refine zdt ?_ | refine zdf ?_ | refine znt ?_ | refine znf ?_ | refine zcd ?_ | refine zci ?_ | refine zc3 ?_) <;> (conv => whnf)))
        intro h8 a8 k8
        have hh1 := fun (K : V → Heap → Prop) hK => ahas_at (K := K) hG a8 (by simp) p.name hK
        have hany : (([] : List AsD).any fun x => x.pod == p.name) = false := by rfl
        rw [hany] at hh1
        ((conv => whnf); repeat ((first | refine SCall.app (hh1 _) ?_ | refine yf rfl ?_ | refine yt rfl ?_ | refine yo rfl ?_ | refine yc rfl ?_ | refine ys rfl ?_ | refine ye rfl ?_ | refine yn rfl ?_ | refine zw ?_ | refine zdt ?_ | refine zdf ?_ | refine znt ?_ | refine znf ?_ | refine zcd ?_ | refine zci ?_ | refine zc3 ?_) <;> (conv => whnf)))
        intro h9 k9
        ((conv => whnf); repeat ((first | refine yf rfl ?_ | refine yt rfl ?_ | refine yo rfl ?_ | refine yc rfl ?_ | refine ys rfl ?_ | refine ye rfl ?_ | refine yn rfl ?_ | refine zw ?_ | refine zdt ?_ | refine zdf ?_ | refine znt ?_ | refine znf ?_ | refine zcd ?_ | refine zci ?_ | refine zc3 ?_) <;> (conv => whnf)))
        rfl
    · -- 2
      obtain ⟨q, hq⟩ : ∃ q : PodD, q = p0 := ⟨_, rfl⟩
      have hqb : podB q = true := by rw [hq]; exact hb
      have hql : PodLen q := by rw [hq]; exact hl0
      have hqt : q.term ≤ 9223372036854775807 := by rw [hq]; exact htm
      have hqn : q.name = p.name := by rw [hq]; exact hnm
      have hqr : podR q = [.s p.name, .i .i64 p.uid, .i .i64 p.prio, .i .i64 p.req.a, .i .i64 p.req.b, .i .i64 p.req.c, .sl none 1 (p.ports.map intR), .sl none 2 (p.labels.map pairR), .sl none 3 (p.sel.map termR), .sl none 3 (p.tols.map tolR), .s p.topo, .sl none 3 (p.anti.map termR), .i .i64 p.skew, .sl none 3 (p.even.map termR), .s [], .i .i64 0] := by rw [hq, hp0]; rfl
      have hput2 := fun K hK => put_yes (K := K) (h := h5) hG hon q hql hqb hqt hK
      rw [hqr] at hput2
      ((conv => whnf); repeat ((first | refine SWrap.w64 (by omega) (by omega) ?_ | refine SIf.df (show ¬ Int.tmod (Int.tmod which 4 + 4) 4 = 0 by rw [← ht, htc]; decide) ?_ | refine SIf.df (show ¬ Int.tmod (Int.tmod which 4 + 4) 4 = 1 by rw [← ht, htc]; decide) ?_ | refine SIf.dt (show Int.tmod (Int.tmod which 4 + 4) 4 = 2 by rw [← ht]; exact htc) ?_ | refine SIf.nt (show ¬ Int.tmod (Int.tmod which 4 + 4) 4 = 3 by rw [← ht, htc]; decide) ?_ | refine SChk.mk (decide_eq_true (show ((([112, 47] : Str).length + p.name.length : Nat) : Int) ≤ 9223372036854775807 by simp; omega)) ?_ | refine SCall.app (hput2 _) ?_ | refine yf rfl ?_ | refine yt rfl ?_ | refine yo rfl ?_ | refine yc rfl ?_ | refine ys rfl ?_ | refine ye rfl ?_ | refine yn rfl ?_ | refine zw ?_ | refine zdt ?_ | refine zdf ?_ | refine znt ?_ | refine znf ?_ | refine zcd ?_ | refine zci ?_ | refine zc3 ?_) <;> (conv => whnf)))
      intro h6 k6
      have a6 := a5.keep k6 (fun x => x) (fun _ _ x => x)
      have c6 := c5.keep k6
      have h56 : h5.next ≤ h6.next := k6.1
      have hok : (decide ((0 : Int) ≤ 5) && okE 5 [] [enP1 q 1]) = true := by simp [okE, getE, enP1, keyP]
      have hcl : ∀ K : V → Heap → Prop, (∀ h' k, h6.next ≤ k → CacheAt h' h2.next (some k) 5 [enP1 q 1] → Heap.Keeps (fun n => n = h2.next) h6 h' → K (.b true) h') → ACall P 26 [.p (.g h2.next) 0, .i .i64 5, .sl none 3 [[.s ([112, 47] ++ p.name), .i .i64 1, .sl none 1 ((encPod q).map byR)]]] h6 K := by
        intro K hK
        have := clist_at (K := K) hG c6 [enP1 q 1] (fun e he => by rw [List.mem_singleton.1 he]; exact enP1_ok hqb hqt 1) (by simp) 5 (fun h => by rw [hok] at h; cases h) (fun _ => hK)
        have hr : [enP1 q 1].map enR = [[.s ([112, 47] ++ p.name), .i .i64 1, .sl none 1 ((encPod q).map byR)]] := by rw [← hqn]; rfl
        rw [hr] at this
        exact this
      ((conv => whnf); repeat ((first | refine SChk.mk (decide_eq_true (show ((([112, 47] : Str).length + p.name.length : Nat) : Int) ≤ 9223372036854775807 by simp; omega)) ?_ | refine SCall.app (hcl _) ?_ | refine yf rfl ?_ | refine yt rfl ?_ | refine yo rfl ?_ | refine yc rfl ?_ | refine ys rfl ?_ | refine ye rfl ?_ | refine yn rfl ?_ | refine zw ?_ | refine zdt ?_ | refine zdf ?_ | refine znt ?_ | refine znf ?_ | refine zcd ?_ | refine zci ?_ | refine zc3 ?_) <;> (conv => whnf)))
      intro h7 k hk7 c7 k7
      have a7 := a6.keep k7 (Nat.ne_of_lt hac) (fun q hq => by have := hsep0 q hq; intro (e : q = h2.next); have := c3.1; omega)
      have hsep : ∀ q, r5 = some q → q ≠ h2.next ∧ some k ≠ some q := fun q hq => by have := hsep0 q hq; have := c3.1; exact ⟨by omega, fun e => by cases e; omega⟩
      have hEn : ∀ e ∈ [enP1 q 1], EnOk e := fun e he => by rw [List.mem_singleton.1 he]; exact enP1_ok hqb hqt 1
      obtain ⟨w, hw1⟩ : ∃ w : Str → Int → Bool, w = fun pod uid => decide (pod = q.name) && (decide (q.uid = uid) && decide (q.node = [])) := ⟨_, rfl⟩
      have hkn : KnownIs [enP1 q 1] w := by rw [hw1]; exact known_one hql hqb hqt 1
      have hwt : w p.name p.uid = true := by rw [hw1, hq]; simp [hnm, hui, hnd]
      have hkp : keepA (overA w 5 3) [o] = [o] := by rw [ho]; unfold keepA overA; simp [hwt]
      have hs1 := fun (K : V → Heap → Prop) hK => asettle_at (K := K) hG hon a7 (by simp) hopod c7 hEn hkn hsep 5 3 hK
      rw [hkp] at hs1
      ((conv => whnf); repeat ((first | refine SCall.app (hs1 _) ?_ | refine yf rfl ?_ | refine yt rfl ?_ | refine yo rfl ?_ | refine yc rfl ?_ | refine ys rfl ?_ | refine ye rfl ?_ | refine yn rfl ?_ | refine zw ?_ | refine zdt ?_ | refine zdf ?_ | refine znt ?_ | refine znf ?_ | refine zcd ?_ | refine zci ?_ | refine zc3 ?_) <;> (conv => whnf)))
      intro h8 a8 k8
      have hh1 := fun (K : V → Heap → Prop) hK => ahas_at (K := K) hG a8 (by simp) p.name hK
      have hany : (([o] : List AsD).any fun x => x.pod == p.name) = true := by rw [ho]; simp
      rw [hany] at hh1
      ((conv => whnf); repeat ((first | refine SCall.app (hh1 _) ?_ | refine yf rfl ?_ | refine yt rfl ?_ | refine yo rfl ?_ | refine yc rfl ?_ | refine ys rfl ?_ | refine ye rfl ?_ | refine yn rfl ?_ | refine zw ?_ | refine zdt ?_ | refine zdf ?_ | refine znt ?_ | refine znf ?_ | refine zcd ?_ | refine zci ?_ | refine zc3 ?_) <;> (conv => whnf)))
      intro h9 k9
      ((conv => whnf); repeat ((first | refine yf rfl ?_ | refine yt rfl ?_ | refine yo rfl ?_ | refine yc rfl ?_ | refine ys rfl ?_ | refine ye rfl ?_ | refine yn rfl ?_ | refine zw ?_ | refine zdt ?_ | refine zdf ?_ | refine znt ?_ | refine znf ?_ | refine zcd ?_ | refine zci ?_ | refine zc3 ?_) <;> (conv => whnf)))
      rfl
    · -- 3
      have hok : (decide ((0 : Int) ≤ 5) && okE 5 [] []) = true := rfl
      have hcl := fun (K : V → Heap → Prop) hK => ACall.leq (K := K) (args := [.p (.g h2.next) 0, .i .i64 5, .nils]) (args' := [.p (.g h2.next) 0, .i .i64 5, .sl none 3 []]) (hr := ⟨.inl rfl, .inl rfl, .inr (.inl .nil), trivial⟩) (h0 := clist_at (K := K) hG c5 [] (fun e he => by cases he) (by simp) 5 (fun h => by rw [hok] at h; cases h) (fun _ => hK))
      ((conv => whnf); repeat ((first | refine SWrap.w64 (by omega) (by omega) ?_ | refine SIf.df (show ¬ Int.tmod (Int.tmod which 4 + 4) 4 = 0 by rw [← ht, htc]; decide) ?_ | refine SIf.df (show ¬ Int.tmod (Int.tmod which 4 + 4) 4 = 1 by rw [← ht, htc]; decide) ?_ | refine SIf.df (show ¬ Int.tmod (Int.tmod which 4 + 4) 4 = 2 by rw [← ht, htc]; decide) ?_ | refine SIf.nf (show Int.tmod (Int.tmod which 4 + 4) 4 = 3 by rw [← ht]; exact htc) ?_ | refine SCall.app (hcl _) ?_ | refine yf rfl ?_ | refine yt rfl ?_ | refine yo rfl ?_ | refine yc rfl ?_ | refine ys rfl ?_ | refine ye rfl ?_ | refine yn rfl ?_ | refine zw ?_ | refine zdt ?_ | refine zdf ?_ | refine znt ?_ | refine znf ?_ | refine zcd ?_ | refine zci ?_ | refine zc3 ?_) <;> (conv => whnf)))
      intro h7 k hk7 c7 k7
      have a7 := a5.keep k7 (Nat.ne_of_lt hac) (fun q hq => by have := hsep0 q hq; intro (e : q = h2.next); have := c3.1; omega)
      have hsep : ∀ q, r5 = some q → q ≠ h2.next ∧ some k ≠ some q := fun q hq => by have := hsep0 q hq; have := c3.1; exact ⟨by omega, fun e => by cases e; omega⟩
      have hEn : ∀ e ∈ ([] : List EnD), EnOk e := fun e he => by cases he
      obtain ⟨w, hw1⟩ : ∃ w : Str → Int → Bool, w = fun _ _ => false := ⟨_, rfl⟩
      have hkn : KnownIs [] w := by rw [hw1]; exact known_none
      have hwt : w p.name p.uid = false := by rw [hw1]
      have hkp : keepA (overA w 5 3) [o] = [] := by rw [ho]; unfold keepA overA; simp [hwt]
      have hs1 := fun (K : V → Heap → Prop) hK => asettle_at (K := K) hG hon a7 (by simp) hopod c7 hEn hkn hsep 5 3 hK
      rw [hkp] at hs1
      ((conv => whnf); repeat ((first | refine SCall.app (hs1 _) ?_ | refine yf rfl ?_ | refine yt rfl ?_ | refine yo rfl ?_ | refine yc rfl ?_ | refine ys rfl ?_ | refine ye rfl ?_ | refine yn rfl ?_ | refine zw ?_ | refine zdt ?_ | refine zdf ?_ | refine znt ?_ | refine znf ?_ | refine zcd ?_ | refine zci ?_ | refine zc3 ?_) <;> (conv => whnf)))
      intro h8 a8 k8
      have hh1 := fun (K : V → Heap → Prop) hK => ahas_at (K := K) hG a8 (by simp) p.name hK
      have hany : (([] : List AsD).any fun x => x.pod == p.name) = false := by rfl
      rw [hany] at hh1
      ((conv => whnf); repeat ((first | refine SCall.app (hh1 _) ?_ | refine yf rfl ?_ | refine yt rfl ?_ | refine yo rfl ?_ | refine yc rfl ?_ | refine ys rfl ?_ | refine ye rfl ?_ | refine yn rfl ?_ | refine zw ?_ | refine zdt ?_ | refine zdf ?_ | refine znt ?_ | refine znf ?_ | refine zcd ?_ | refine zci ?_ | refine zc3 ?_) <;> (conv => whnf)))
      intro h9 k9
      ((conv => whnf); repeat ((first | refine yf rfl ?_ | refine yt rfl ?_ | refine yo rfl ?_ | refine yc rfl ?_ | refine ys rfl ?_ | refine ye rfl ?_ | refine yn rfl ?_ | refine zw ?_ | refine zdt ?_ | refine zdf ?_ | refine znt ?_ | refine znf ?_ | refine zcd ?_ | refine zci ?_ | refine zc3 ?_) <;> (conv => whnf)))
      rfl
end
end Go.Eng
