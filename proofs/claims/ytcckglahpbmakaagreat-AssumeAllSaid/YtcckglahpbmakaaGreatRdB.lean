/-
A pod out of bytes.
-/
import Derived.Test.YtcckglahpbmakaaGreatRdA
set_option linter.unusedVariables false
set_option linter.unusedSimpArgs false
namespace Go.Eng
open Go
structure PodRead (p : PodD) : Prop where
  small : PodSmall p
  name : NameOk p.name
  uid : 0 ≤ p.uid ∧ p.uid ≤ 9223372036854775807
  prio : 0 ≤ p.prio ∧ p.prio < 65536
  req : ResByte p.req
  ports : ∀ n ∈ p.ports, 0 ≤ n ∧ n < 65536
  labels : ∀ q ∈ p.labels, NameOk q.key ∧ NameOk q.val
  sel : ∀ t ∈ p.sel, TermOk t
  tols : ∀ t ∈ p.tols, NameOk t.key ∧ NameOk t.val
  topo : NameOk p.topo
  anti : ∀ t ∈ p.anti, TermOk t
  skew : 0 ≤ p.skew ∧ p.skew < 256
  even : ∀ t ∈ p.even, TermOk t
  node : NameOk p.node
  term : 0 ≤ p.term ∧ p.term ≤ 9223372036854775807
def OutN (lc : Heap) (k : Nat) (bv : V) (rows : List (List V)) : Prop := (rows = [] ∧ bv = .nils) ∨ ∃ t, bv = .sl (some (.l t)) k rows ∧ 1 < t ∧ t < lc.next ∧ lc.get t = some .spare ∧ rows ≠ []
def zeroP : List V := [.s [], .i .i64 0, .i .i64 0, .i .i64 0, .i .i64 0, .i .i64 0, .nils, .nils, .nils, .nils, .s [], .nils, .i .i64 0, .nils, .s [], .i .i64 0]
def cellA (p : PodD) (pv : V) : List V := [.s p.name, .i .i64 p.uid, .i .i64 p.prio, .i .i64 p.req.a, .i .i64 p.req.b, .i .i64 p.req.c, pv, .nils, .nils, .nils, .s [], .nils, .i .i64 0, .nils, .s [], .i .i64 0]
def cellB (p : PodD) (pv tv : V) : List V := [.s p.name, .i .i64 p.uid, .i .i64 p.prio, .i .i64 p.req.a, .i .i64 p.req.b, .i .i64 p.req.c, pv, .sl none 2 (p.labels.map pairR), .sl none 3 (p.sel.map termR), tv, .s [], .nils, .i .i64 0, .nils, .s [], .i .i64 0]
theorem res_go {fr : Fr} {st : St} {rs : List RV} {v : V} {K : V → Heap → Prop} (h : resOf fr st rs = some v) (hK : K v st.g) : retK rs K .ret fr st := by
  show (match resOf fr st rs with | some v => K v st.g | none => False)
  rw [h]; exact hK
theorem resOf_cell {fr : Fr} {st : St} {k t : Nat} {j : Key} {c cs : List V} {v : V} {b : Bool} (h1 : fr.get k = .p j 0) (h2 : st.get j = some (.cs c)) (h3 : ldCells c 0 (some 16) = some v) (h5 : v.pass = some (.agg cs)) (h4 : fr.get t = .b b) : resOf fr st [.cell k (some 16), .t t] = some (.tup [.agg cs, .b b]) := by
  have e1 : resVal fr st (.cell k (some 16)) = some (.agg cs) := by
    unfold resVal
    simp only [h1, h2, h3, h5]
  have e2 : resVal fr st (.t t) = some (.b b) := by
    show (fr.get t).pass = _
    rw [h4]; rfl
  unfold resOf
  simp only [resVals, e1, e2]
theorem encPod_pos (p : PodD) : 0 < (encPod p).length := by
  unfold encPod
  simp only [List.length_append, numB_len]
  omega
section
variable {P : Program} (hG : FnsOk P AF.fns.get)
include hG
set_option maxHeartbeats 32000000 in
set_option maxRecDepth 20000 in
theorem rget0_at (hon : OnceOk P 161) (p : PodD) (hp : PodRead p) (hm : Pure P 66 [.agg (podR p)] (· = .b true)) {h : Heap} {K : V → Heap → Prop}
    (hK : ∀ cs h', CeL ren0 ⟨0, 0⟩ noFz cs (podR p) → Heap.Keeps (fun _ => False) h h' → K (.tup [.agg cs, .b true]) h') : ACall P 87 [.sl none 1 ((encPod p).map byR)] h K := by
  obtain ⟨S17, e17⟩ : ∃ S : List Int, S = [] := ⟨_, rfl⟩
  have l17 : S17.length ≤ 0 := by rw [e17]; exact Nat.le_refl _
  obtain ⟨S16, e16⟩ : ∃ S : List Int, S = numB p.term 8 ++ S17 := ⟨_, rfl⟩
  have l16 : S16.length ≤ 8 := by rw [e16, List.length_append]; rw [numB_len]; omega
  obtain ⟨S15, e15⟩ : ∃ S : List Int, S = encName p.node ++ S16 := ⟨_, rfl⟩
  have l15 : S15.length ≤ 16 := by rw [e15, List.length_append]; rw [encName_len]; omega
  obtain ⟨S14, e14⟩ : ∃ S : List Int, S = encTerms p.even ++ S15 := ⟨_, rfl⟩
  have l14 : S14.length ≤ 81017 := by rw [e14, List.length_append]; have := encTerms_len hp.small.even hp.small.evenv; omega
  obtain ⟨S13, e13⟩ : ∃ S : List Int, S = numB p.skew 1 ++ S14 := ⟨_, rfl⟩
  have l13 : S13.length ≤ 81018 := by rw [e13, List.length_append]; rw [numB_len]; omega
  obtain ⟨S12, e12⟩ : ∃ S : List Int, S = encTerms p.anti ++ S13 := ⟨_, rfl⟩
  have l12 : S12.length ≤ 162019 := by rw [e12, List.length_append]; have := encTerms_len hp.small.anti hp.small.antiv; omega
  obtain ⟨S11, e11⟩ : ∃ S : List Int, S = encName p.topo ++ S12 := ⟨_, rfl⟩
  have l11 : S11.length ≤ 162027 := by rw [e11, List.length_append]; rw [encName_len]; omega
  obtain ⟨S10, e10⟩ : ∃ S : List Int, S = p.tols.flatMap encTol ++ S11 := ⟨_, rfl⟩
  have l10 : S10.length ≤ 163727 := by rw [e10, List.length_append]; have := flatW_len encTol 17 p.tols fun t _ => Nat.le_of_eq (encTol_len t); have := hp.small.tols; omega
  obtain ⟨S9, e9⟩ : ∃ S : List Int, S = numB p.tols.length 1 ++ S10 := ⟨_, rfl⟩
  have l9 : S9.length ≤ 163728 := by rw [e9, List.length_append]; rw [numB_len]; omega
  obtain ⟨S8, e8⟩ : ∃ S : List Int, S = encTerms p.sel ++ S9 := ⟨_, rfl⟩
  have l8 : S8.length ≤ 244729 := by rw [e8, List.length_append]; have := encTerms_len hp.small.sel hp.small.selv; omega
  obtain ⟨S7, e7⟩ : ∃ S : List Int, S = encPairs p.labels ++ S8 := ⟨_, rfl⟩
  have l7 : S7.length ≤ 246330 := by rw [e7, List.length_append]; have := encPairs_len hp.small.labels; omega
  obtain ⟨S6, e6⟩ : ∃ S : List Int, S = p.ports.flatMap encPort ++ S7 := ⟨_, rfl⟩
  have l6 : S6.length ≤ 246530 := by rw [e6, List.length_append]; have := flatW_len encPort 2 p.ports fun _ _ => Nat.le_of_eq (numB_len _ _); have := hp.small.ports; omega
  obtain ⟨S5, e5⟩ : ∃ S : List Int, S = numB p.ports.length 1 ++ S6 := ⟨_, rfl⟩
  have l5 : S5.length ≤ 246531 := by rw [e5, List.length_append]; rw [numB_len]; omega
  obtain ⟨S4, e4⟩ : ∃ S : List Int, S = encRes p.req ++ S5 := ⟨_, rfl⟩
  have l4 : S4.length ≤ 246543 := by rw [e4, List.length_append]; rw [encRes_len]; omega
  obtain ⟨S3, e3⟩ : ∃ S : List Int, S = numB p.prio 2 ++ S4 := ⟨_, rfl⟩
  have l3 : S3.length ≤ 246545 := by rw [e3, List.length_append]; rw [numB_len]; omega
  obtain ⟨S2, e2⟩ : ∃ S : List Int, S = numB p.uid 8 ++ S3 := ⟨_, rfl⟩
  have l2 : S2.length ≤ 246553 := by rw [e2, List.length_append]; rw [numB_len]; omega
  obtain ⟨S1, e1⟩ : ∃ S : List Int, S = encName p.name ++ S2 := ⟨_, rfl⟩
  have l1 : S1.length ≤ 246561 := by rw [e1, List.length_append]; rw [encName_len]; omega
  obtain ⟨S0, e0⟩ : ∃ S : List Int, S = numB 1 1 ++ S1 := ⟨_, rfl⟩
  have l0 : S0.length ≤ 246562 := by rw [e0, List.length_append]; rw [numB_len]; omega
  have hS0 : encPod p = S0 := by
    rw [e0, e1, e2, e3, e4, e5, e6, e7, e8, e9, e10, e11, e12, e13, e14, e15, e16, e17]
    unfold encPod encPorts encTols
    simp only [List.append_assoc, List.append_nil]
  have hget := encPod_pos p
  rw [hS0] at hget ⊢
  have hnew := fun K hK => rnew_at (K := K) hG (h := h) S0 (by omega) hK
  refine fn_sp (hG _ AF.f87 rfl) rfl ?_
  ((conv => whnf); repeat ((first | refine SCall.app (hnew _) ?_ | refine yf rfl ?_ | refine yt rfl ?_ | refine yo rfl ?_ | refine yc rfl ?_ | refine ys rfl ?_ | refine ye rfl ?_ | refine yn rfl ?_ | refine zw ?_ | refine zdt ?_ | refine zdf ?_ | refine znt ?_ | refine znf ?_ | refine zcd ?_ | refine zci ?_ | refine zc3 ?_) <;> (conv => whnf)))
  intro hA rA kA
  rw [e0] at rA
  have c0 := fun K hK => rnumI_at (K := K) hG rA (by omega) (by omega) (by decide) (by omega) (by omega) hK
  ((conv => whnf); repeat ((first | refine SCall.app (c0 _) ?_ | refine yf rfl ?_ | refine yt rfl ?_ | refine yo rfl ?_ | refine yc rfl ?_ | refine ys rfl ?_ | refine ye rfl ?_ | refine yn rfl ?_ | refine zw ?_ | refine zdt ?_ | refine zdf ?_ | refine znt ?_ | refine znf ?_ | refine zcd ?_ | refine zci ?_ | refine zc3 ?_) <;> (conv => whnf)))
  intro h0 r0 k0
  rw [e1] at r0
  have c1 := fun K hK => rname_at (K := K) hG hon r0 hp.name (by omega) hK
  ((conv => whnf); repeat ((first | refine SCall.app (c1 _) ?_ | refine yf rfl ?_ | refine yt rfl ?_ | refine yo rfl ?_ | refine yc rfl ?_ | refine ys rfl ?_ | refine ye rfl ?_ | refine yn rfl ?_ | refine zw ?_ | refine zdt ?_ | refine zdf ?_ | refine znt ?_ | refine znf ?_ | refine zcd ?_ | refine zci ?_ | refine zc3 ?_) <;> (conv => whnf)))
  intro h1 r1 k1
  rw [e2] at r1
  have c2 := fun K hK => rnumI_at (K := K) hG r1 (by omega) hp.uid.1 (by show p.uid < (18446744073709551616 : Int); have := hp.uid.2; omega) hp.uid.2 (by omega) hK
  ((conv => whnf); repeat ((first | refine SCall.app (c2 _) ?_ | refine yf rfl ?_ | refine yt rfl ?_ | refine yo rfl ?_ | refine yc rfl ?_ | refine ys rfl ?_ | refine ye rfl ?_ | refine yn rfl ?_ | refine zw ?_ | refine zdt ?_ | refine zdf ?_ | refine znt ?_ | refine znf ?_ | refine zcd ?_ | refine zci ?_ | refine zc3 ?_) <;> (conv => whnf)))
  intro h2 r2 k2
  rw [e3] at r2
  have c3 := fun K hK => rnumI_at (K := K) hG r2 (by omega) hp.prio.1 (by show p.prio < (65536 : Int); exact hp.prio.2) (by have := hp.prio.2; omega) (by omega) hK
  ((conv => whnf); repeat ((first | refine SCall.app (c3 _) ?_ | refine yf rfl ?_ | refine yt rfl ?_ | refine yo rfl ?_ | refine yc rfl ?_ | refine ys rfl ?_ | refine ye rfl ?_ | refine yn rfl ?_ | refine zw ?_ | refine zdt ?_ | refine zdf ?_ | refine znt ?_ | refine znf ?_ | refine zcd ?_ | refine zci ?_ | refine zc3 ?_) <;> (conv => whnf)))
  intro h3 r3 k3
  rw [e4] at r3
  have c4 := fun K hK => rres_at (K := K) hG r3 hp.req (by omega) hK
  ((conv => whnf); repeat ((first | refine SCall.app (c4 _) ?_ | refine yf rfl ?_ | refine yt rfl ?_ | refine yo rfl ?_ | refine yc rfl ?_ | refine ys rfl ?_ | refine ye rfl ?_ | refine yn rfl ?_ | refine zw ?_ | refine zdt ?_ | refine zdf ?_ | refine znt ?_ | refine znf ?_ | refine zcd ?_ | refine zci ?_ | refine zc3 ?_) <;> (conv => whnf)))
  intro h4 r4 k4
  rw [e5] at r4
  have hps := hp.small.ports
  have hge := flatW_ge encPort (fun n => by show 1 ≤ (numB n 2).length; rw [numB_len]; omega) p.ports
  have c5 := fun K hK => rcount_at (K := K) hG r4 (by omega) (by rw [e6, List.length_append]; omega) (by omega) hK
  ((conv => whnf); repeat ((first | refine SCall.app (c5 _) ?_ | refine yf rfl ?_ | refine yt rfl ?_ | refine yo rfl ?_ | refine yc rfl ?_ | refine ys rfl ?_ | refine ye rfl ?_ | refine yn rfl ?_ | refine zw ?_ | refine zdt ?_ | refine zdf ?_ | refine znt ?_ | refine znf ?_ | refine zcd ?_ | refine zci ?_ | refine zc3 ?_) <;> (conv => whnf)))
  intro h5 r5 k5
  rw [e6] at r5
  have kk5 := ((((k0.trans k1).trans k2).trans k3).trans k4).trans k5
  ((conv => whnf); repeat ((first | refine yf rfl ?_ | refine yt rfl ?_ | refine yo rfl ?_ | refine yc rfl ?_ | refine ys rfl ?_ | refine ye rfl ?_ | refine yn rfl ?_ | refine zw ?_ | refine zdt ?_ | refine zdf ?_ | refine znt ?_ | refine znf ?_ | refine zcd ?_ | refine zci ?_ | refine zc3 ?_) <;> (conv => whnf)))
  refine SLoop.by (fun q fr st => ∃ (i : Nat) (hh lj : Heap) (m' : Bool) (pv : V), i ≤ p.ports.length ∧ q = p.ports.length - i ∧ RdAt hh h.next m' ((p.ports.drop i).flatMap encPort ++ S7) ∧ Heap.Keeps (fun n => n = h.next) hA hh ∧
      1 < lj.next ∧ lj.get 0 = some (.cs zeroP) ∧ lj.get 1 = some (.cs (cellA p pv)) ∧ OutN lj 1 pv ((p.ports.take i).map intR) ∧
      Fr.le [(21, .i .i64 i), (20, .i .i64 p.ports.length), (5, .p (.l 1) 0), (4, .p (.g h.next) 0), (2, .p (.l 0) 0), (0, .sl none 1 (S0.map byR))] fr ∧ st = ⟨hh, lj⟩)
    p.ports.length ⟨0, h5, _, _, .nils, Nat.zero_le _, rfl, r5, kk5, Nat.lt_succ_self _, rfl, rfl, .inl ⟨rfl, rfl⟩, (by repeat (first | exact Fr.le_nil | refine Fr.le_cons rfl ?_)), rfl⟩ ?_
  rintro q fr st ⟨i, hh, lj, m', pv, hi, rfl, hrd, hk, hlj, z0, b0, hpv, hle0, rfl⟩
  refine ⟨_, hle0, fun R hR => ?_⟩
  by_cases hin : i < p.ports.length
  · have he := List.getElem?_eq_getElem hin
    have hxo := hp.ports _ (List.getElem_mem hin)
    generalize p.ports[i] = x at he hxo
    have hd := flatW_drop encPort he
    have hle3 := flatW_len_drop encPort 2 p.ports (i + 1) fun _ _ => Nat.le_of_eq (numB_len _ _)
    rw [hd, List.append_assoc] at hrd
    have htk : (p.ports.take (i + 1)).map intR = (p.ports.take i).map intR ++ [intR x] := by rw [List.take_add_one, he]; simp
    have htl : ((p.ports.take i).map intR).length ≤ 100 := by simp; omega
    have c := fun K hK => rnumI_at (K := K) hG hrd (by omega) hxo.1 (by show x < (65536 : Int); exact hxo.2) (by have := hxo.2; omega) (by rw [List.length_append]; omega) hK
    have p1 : (lj.push .spare).get 1 = some (.cs (cellA p pv)) := Heap.gp (by omega) b0
    rcases hpv with ⟨hb0, rfl⟩ | ⟨t, rfl, ht1, ht2, ht3, hne⟩
    · have p2 : ((lj.push .spare).push .spare).get 1 = some (.cs (cellA p .nils)) := Heap.gp (by show 1 ≠ lj.next + 1; omega) p1
      ((conv => whnf); repeat ((first | refine SIf.dt (show (i : Int) < (p.ports.length : Nat) by omega) ?_ | refine SCall.app (c _) ?_ | refine SEx.of (b0) ?_ | refine yf rfl ?_ | refine yt rfl ?_ | refine yo rfl ?_ | refine yc rfl ?_ | refine ys rfl ?_ | refine ye rfl ?_ | refine yn rfl ?_ | refine zw ?_ | refine zdt ?_ | refine zdf ?_ | refine znt ?_ | refine znf ?_ | refine zcd ?_ | refine zci ?_ | refine zc3 ?_) <;> (conv => whnf)))
      intro h' r' q'
      ((conv => whnf); repeat ((first | refine SWrap.w64 (by omega) (by omega) ?_ | refine SEx.of (b0) ?_ | refine SEx.of (p1) ?_ | refine SEx.of (p2) ?_ | refine yf rfl ?_ | refine yt rfl ?_ | refine yo rfl ?_ | refine yc rfl ?_ | refine ys rfl ?_ | refine ye rfl ?_ | refine yn rfl ?_ | refine zw ?_ | refine zdt ?_ | refine zdf ?_ | refine znt ?_ | refine znf ?_ | refine zcd ?_ | refine zci ?_ | refine zc3 ?_) <;> (conv => whnf)))
      exact hR (p.ports.length - (i + 1)) _ _ (by omega) ⟨i + 1, h', _, m', _, by omega, rfl, r', hk.trans q', (by show 1 < lj.next + 1 + 1; omega), Heap.gs (by omega) (Heap.gp (by show 0 ≠ lj.next + 1; omega) (Heap.gp (by omega) z0)), Heap.get_set_self p2, .inr ⟨lj.next + 1, by first | (rw [htk, hb0]; done) | (rw [htk, hb0]; rfl), by omega, Nat.lt_succ_self _, Heap.gs (by omega) (Heap.get_push_self _ _), by rw [htk]; simp⟩, (by repeat (first | exact Fr.le_nil | refine Fr.le_cons rfl ?_)), rfl⟩
    · have f0 : (lj.push .spare).get t = some .spare := Heap.gp (by omega) ht3
      have p3 : (((lj.push .spare).remove t).push .spare).get 1 = some (.cs (cellA p (.sl (some (.l t)) 1 ((p.ports.take i).map intR)))) := Heap.gp (by show 1 ≠ lj.next + 1; omega) (Heap.gr (by omega) p1)
      ((conv => whnf); repeat ((first | refine SIf.dt (show (i : Int) < (p.ports.length : Nat) by omega) ?_ | refine SCall.app (c _) ?_ | refine SEx.of (b0) ?_ | refine yf rfl ?_ | refine yt rfl ?_ | refine yo rfl ?_ | refine yc rfl ?_ | refine ys rfl ?_ | refine ye rfl ?_ | refine yn rfl ?_ | refine zw ?_ | refine zdt ?_ | refine zdf ?_ | refine znt ?_ | refine znf ?_ | refine zcd ?_ | refine zci ?_ | refine zc3 ?_) <;> (conv => whnf)))
      intro h' r' q'
      ((conv => whnf); repeat ((first | refine SWrap.w64 (by omega) (by omega) ?_ | refine SChk.mk (by simp only [roomOk]; exact decide_eq_true (by simp at htl ⊢; omega)) ?_ | refine SEx.of (b0) ?_ | refine SEx.of (p1) ?_ | refine SEx.of (p3) ?_ | refine SEx.of (f0) ?_ | refine yf rfl ?_ | refine yt rfl ?_ | refine yo rfl ?_ | refine yc rfl ?_ | refine ys rfl ?_ | refine ye rfl ?_ | refine yn rfl ?_ | refine zw ?_ | refine zdt ?_ | refine zdf ?_ | refine znt ?_ | refine znf ?_ | refine zcd ?_ | refine zci ?_ | refine zc3 ?_) <;> (conv => whnf)))
      exact hR (p.ports.length - (i + 1)) _ _ (by omega) ⟨i + 1, h', _, m', _, by omega, rfl, r', hk.trans q', (by show 1 < lj.next + 1 + 1; omega), Heap.gs (by omega) (Heap.gp (by show 0 ≠ lj.next + 1; omega) (Heap.gr (by omega) (Heap.gp (by omega) z0))), Heap.get_set_self p3, .inr ⟨lj.next + 1, by first | (rw [htk]; done) | (rw [htk]; rfl), by omega, Nat.lt_succ_self _, Heap.gs (by omega) (Heap.get_push_self _ _), by rw [htk]; simp⟩, (by repeat (first | exact Fr.le_nil | refine Fr.le_cons rfl ?_)), rfl⟩
  obtain rfl : i = p.ports.length := by omega
  rw [List.drop_length, List.flatMap_nil, List.nil_append, e7] at hrd
  rw [List.take_length] at hpv
  have q1 : ∀ o, (lj.set 1 o).get 1 = some o := fun o => Heap.get_set_self b0
  have q2 : ∀ o o2, ((lj.set 1 o).set 1 o2).get 1 = some o2 := fun o o2 => Heap.get_set_self (q1 o)
  have c7 := fun K hK => rpairs2_at (K := K) hG hon hrd hp.small.labels hp.labels (by omega) hK
  ((conv => whnf); repeat ((first | refine SIf.df (show ¬ ((p.ports.length : Nat) : Int) < (p.ports.length : Nat) by omega) ?_ | refine SCall.app (c7 _) ?_ | refine SEx.of (b0) ?_ | refine yf rfl ?_ | refine yt rfl ?_ | refine yo rfl ?_ | refine yc rfl ?_ | refine ys rfl ?_ | refine ye rfl ?_ | refine yn rfl ?_ | refine zw ?_ | refine zdt ?_ | refine zdf ?_ | refine znt ?_ | refine znf ?_ | refine zcd ?_ | refine zci ?_ | refine zc3 ?_) <;> (conv => whnf)))
  intro h7 m7 r7 k7
  rw [e8] at r7
  have c8 := fun K hK => rterms2_at (K := K) hG hon r7 hp.small.sel hp.sel (by omega) hK
  ((conv => whnf); repeat ((first | refine SCall.app (c8 _) ?_ | refine SEx.of (b0) ?_ | refine SEx.of (q1 _) ?_ | refine yf rfl ?_ | refine yt rfl ?_ | refine yo rfl ?_ | refine yc rfl ?_ | refine ys rfl ?_ | refine ye rfl ?_ | refine yn rfl ?_ | refine zw ?_ | refine zdt ?_ | refine zdf ?_ | refine znt ?_ | refine znf ?_ | refine zcd ?_ | refine zci ?_ | refine zc3 ?_) <;> (conv => whnf)))
  intro h8 m8 r8 k8
  rw [e9] at r8
  have hts := hp.small.tols
  have hge2 := flatW_ge encTol (fun t => by rw [encTol_len]; omega) p.tols
  have c9 := fun K hK => rcount_at (K := K) hG r8 (by omega) (by rw [e10, List.length_append]; omega) (by omega) hK
  ((conv => whnf); repeat ((first | refine SCall.app (c9 _) ?_ | refine SEx.of (b0) ?_ | refine SEx.of (q1 _) ?_ | refine SEx.of (q2 _ _) ?_ | refine yf rfl ?_ | refine yt rfl ?_ | refine yo rfl ?_ | refine yc rfl ?_ | refine ys rfl ?_ | refine ye rfl ?_ | refine yn rfl ?_ | refine zw ?_ | refine zdt ?_ | refine zdf ?_ | refine znt ?_ | refine znf ?_ | refine zcd ?_ | refine zci ?_ | refine zc3 ?_) <;> (conv => whnf)))
  intro h9 r9 k9
  rw [e10] at r9
  have kk9 := ((hk.trans k7).trans k8).trans k9
  ((conv => whnf); repeat ((first | refine yf rfl ?_ | refine yt rfl ?_ | refine yo rfl ?_ | refine yc rfl ?_ | refine ys rfl ?_ | refine ye rfl ?_ | refine yn rfl ?_ | refine zw ?_ | refine zdt ?_ | refine zdf ?_ | refine znt ?_ | refine znf ?_ | refine zcd ?_ | refine zci ?_ | refine zc3 ?_) <;> (conv => whnf)))
  refine SLoop.by (fun q fr st => ∃ (i : Nat) (hh lj : Heap) (m' : Bool) (tv' : V), i ≤ p.tols.length ∧ q = p.tols.length - i ∧ RdAt hh h.next m' ((p.tols.drop i).flatMap encTol ++ S11) ∧ Heap.Keeps (fun n => n = h.next) hA hh ∧
      1 < lj.next ∧ lj.get 0 = some (.cs zeroP) ∧ lj.get 1 = some (.cs (cellB p pv tv')) ∧ OutN lj 3 tv' ((p.tols.take i).map tolR) ∧
      Fr.le [(39, .i .i64 i), (38, .i .i64 p.tols.length), (5, .p (.l 1) 0), (4, .p (.g h.next) 0), (2, .p (.l 0) 0), (0, .sl none 1 (S0.map byR))] fr ∧ st = ⟨hh, lj⟩)
    p.tols.length ⟨0, h9, _, _, .nils, Nat.zero_le _, rfl, r9, kk9, (by exact hlj), Heap.gs (by omega) (Heap.gs (by omega) z0), q2 _ _, .inl ⟨rfl, rfl⟩, (by repeat (first | exact Fr.le_nil | refine Fr.le_cons rfl ?_)), rfl⟩ ?_
  clear hlj z0 b0 q1 q2 c7 c8 c9
  rintro q fr st ⟨i, hh, lj, m', tv', hi, rfl, hrd, hk, hlj, z0, b0, htv, hle1, rfl⟩
  refine ⟨_, hle1, fun R hR => ?_⟩
  by_cases hin : i < p.tols.length
  · have he := List.getElem?_eq_getElem hin
    have hxo := hp.tols _ (List.getElem_mem hin)
    generalize p.tols[i] = x at he hxo
    have hd := flatW_drop encTol he
    have hle3 := flatW_len_drop encTol 17 p.tols (i + 1) fun t _ => Nat.le_of_eq (encTol_len t)
    rw [hd] at hrd
    unfold encTol at hrd
    rw [List.append_assoc, List.append_assoc, List.append_assoc] at hrd
    change RdAt hh h.next m' (encName x.key ++ (encName x.val ++ (encBool x.any ++ ((p.tols.drop (i + 1)).flatMap encTol ++ S11)))) at hrd
    have htk : (p.tols.take (i + 1)).map tolR = (p.tols.take i).map tolR ++ [tolR x] := by rw [List.take_add_one, he]; simp
    have htl : ((p.tols.take i).map tolR).length ≤ 100 := by simp; omega
    have hbl : (encBool x.any).length = 1 := numB_len _ _
    have p1 : (lj.push .spare).get 1 = some (.cs (cellB p pv tv')) := Heap.gp (by omega) b0
    have d1 := fun K hK => rname_at (K := K) hG hon hrd hxo.1 (by rw [List.length_append, List.length_append, List.length_append, encName_len, hbl]; omega) hK
    rcases htv with ⟨hb0, rfl⟩ | ⟨t, rfl, ht1, ht2, ht3, hne⟩
    all_goals
      ((conv => whnf); repeat ((first | refine SIf.dt (show (i : Int) < (p.tols.length : Nat) by omega) ?_ | refine SCall.app (d1 _) ?_ | refine SEx.of (b0) ?_ | refine yf rfl ?_ | refine yt rfl ?_ | refine yo rfl ?_ | refine yc rfl ?_ | refine ys rfl ?_ | refine ye rfl ?_ | refine yn rfl ?_ | refine zw ?_ | refine zdt ?_ | refine zdf ?_ | refine znt ?_ | refine znf ?_ | refine zcd ?_ | refine zci ?_ | refine zc3 ?_) <;> (conv => whnf)))
      intro ha ra ka
      have d2 := fun K hK => rname_at (K := K) hG hon ra hxo.2 (by rw [List.length_append, List.length_append, hbl]; omega) hK
      ((conv => whnf); repeat ((first | refine SCall.app (d2 _) ?_ | refine SEx.of (b0) ?_ | refine yf rfl ?_ | refine yt rfl ?_ | refine yo rfl ?_ | refine yc rfl ?_ | refine ys rfl ?_ | refine ye rfl ?_ | refine yn rfl ?_ | refine zw ?_ | refine zdt ?_ | refine zdf ?_ | refine znt ?_ | refine znf ?_ | refine zcd ?_ | refine zci ?_ | refine zc3 ?_) <;> (conv => whnf)))
      intro hb' rb kb
      have d3 := fun K hK => rbool_at (K := K) hG rb (by rw [List.length_append]; omega) hK
      ((conv => whnf); repeat ((first | refine SCall.app (d3 _) ?_ | refine SEx.of (b0) ?_ | refine yf rfl ?_ | refine yt rfl ?_ | refine yo rfl ?_ | refine yc rfl ?_ | refine ys rfl ?_ | refine ye rfl ?_ | refine yn rfl ?_ | refine zw ?_ | refine zdt ?_ | refine zdf ?_ | refine znt ?_ | refine znf ?_ | refine zcd ?_ | refine zci ?_ | refine zc3 ?_) <;> (conv => whnf)))
      intro hc rc kc
    · have p2 : ((lj.push .spare).push .spare).get 1 = some (.cs (cellB p pv .nils)) := Heap.gp (by show 1 ≠ lj.next + 1; omega) p1
      ((conv => whnf); repeat ((first | refine SWrap.w64 (by omega) (by omega) ?_ | refine SEx.of (b0) ?_ | refine SEx.of (p1) ?_ | refine SEx.of (p2) ?_ | refine yf rfl ?_ | refine yt rfl ?_ | refine yo rfl ?_ | refine yc rfl ?_ | refine ys rfl ?_ | refine ye rfl ?_ | refine yn rfl ?_ | refine zw ?_ | refine zdt ?_ | refine zdf ?_ | refine znt ?_ | refine znf ?_ | refine zcd ?_ | refine zci ?_ | refine zc3 ?_) <;> (conv => whnf)))
      exact hR (p.tols.length - (i + 1)) _ _ (by omega) ⟨i + 1, hc, _, _, _, by omega, rfl, rc, ((hk.trans ka).trans kb).trans kc, (by show 1 < lj.next + 1 + 1; omega), Heap.gs (by omega) (Heap.gp (by show 0 ≠ lj.next + 1; omega) (Heap.gp (by omega) z0)), Heap.get_set_self p2, .inr ⟨lj.next + 1, by first | (rw [htk, hb0]; done) | (rw [htk, hb0]; rfl), by omega, Nat.lt_succ_self _, Heap.gs (by omega) (Heap.get_push_self _ _), by rw [htk]; simp⟩, (by repeat (first | exact Fr.le_nil | refine Fr.le_cons rfl ?_)), rfl⟩
    · have f0 : (lj.push .spare).get t = some .spare := Heap.gp (by omega) ht3
      have p3 : (((lj.push .spare).remove t).push .spare).get 1 = some (.cs (cellB p pv (.sl (some (.l t)) 3 ((p.tols.take i).map tolR)))) := Heap.gp (by show 1 ≠ lj.next + 1; omega) (Heap.gr (by omega) p1)
      ((conv => whnf); repeat ((first | refine SWrap.w64 (by omega) (by omega) ?_ | refine SChk.mk (by simp only [roomOk]; exact decide_eq_true (by simp at htl ⊢; omega)) ?_ | refine SEx.of (b0) ?_ | refine SEx.of (p1) ?_ | refine SEx.of (p3) ?_ | refine SEx.of (f0) ?_ | refine yf rfl ?_ | refine yt rfl ?_ | refine yo rfl ?_ | refine yc rfl ?_ | refine ys rfl ?_ | refine ye rfl ?_ | refine yn rfl ?_ | refine zw ?_ | refine zdt ?_ | refine zdf ?_ | refine znt ?_ | refine znf ?_ | refine zcd ?_ | refine zci ?_ | refine zc3 ?_) <;> (conv => whnf)))
      exact hR (p.tols.length - (i + 1)) _ _ (by omega) ⟨i + 1, hc, _, _, _, by omega, rfl, rc, ((hk.trans ka).trans kb).trans kc, (by show 1 < lj.next + 1 + 1; omega), Heap.gs (by omega) (Heap.gp (by show 0 ≠ lj.next + 1; omega) (Heap.gr (by omega) (Heap.gp (by omega) z0))), Heap.get_set_self p3, .inr ⟨lj.next + 1, by first | (rw [htk]; done) | (rw [htk]; rfl), by omega, Nat.lt_succ_self _, Heap.gs (by omega) (Heap.get_push_self _ _), by rw [htk]; simp⟩, (by repeat (first | exact Fr.le_nil | refine Fr.le_cons rfl ?_)), rfl⟩
  obtain rfl : i = p.tols.length := by omega
  rw [List.drop_length, List.flatMap_nil, List.nil_append, e11] at hrd
  rw [List.take_length] at htv
  have q1 : ∀ o, (lj.set 1 o).get 1 = some o := fun o => Heap.get_set_self b0
  have q2 : ∀ o o2, ((lj.set 1 o).set 1 o2).get 1 = some o2 := fun o o2 => Heap.get_set_self (q1 o)
  have q3 : ∀ o o2 o3, (((lj.set 1 o).set 1 o2).set 1 o3).get 1 = some o3 := fun o o2 o3 => Heap.get_set_self (q2 o o2)
  have q4 : ∀ o o2 o3 o4, ((((lj.set 1 o).set 1 o2).set 1 o3).set 1 o4).get 1 = some o4 := fun o o2 o3 o4 => Heap.get_set_self (q3 o o2 o3)
  have q5 : ∀ o o2 o3 o4 o5, (((((lj.set 1 o).set 1 o2).set 1 o3).set 1 o4).set 1 o5).get 1 = some o5 := fun o o2 o3 o4 o5 => Heap.get_set_self (q4 o o2 o3 o4)
  have q6 : ∀ o o2 o3 o4 o5 o6, ((((((lj.set 1 o).set 1 o2).set 1 o3).set 1 o4).set 1 o5).set 1 o6).get 1 = some o6 := fun o o2 o3 o4 o5 o6 => Heap.get_set_self (q5 o o2 o3 o4 o5)
  have z6 : ∀ o o2 o3 o4 o5 o6, ((((((lj.set 1 o).set 1 o2).set 1 o3).set 1 o4).set 1 o5).set 1 o6).get 0 = some (.cs zeroP) := fun o o2 o3 o4 o5 o6 => Heap.gs (by omega) (Heap.gs (by omega) (Heap.gs (by omega) (Heap.gs (by omega) (Heap.gs (by omega) (Heap.gs (by omega) z0)))))
  have z7 : ∀ o o2 o3 o4 o5 o6 o7, (((((((lj.set 1 o).set 1 o2).set 1 o3).set 1 o4).set 1 o5).set 1 o6).set 0 o7).get 0 = some o7 := fun o o2 o3 o4 o5 o6 o7 => Heap.get_set_self (z6 o o2 o3 o4 o5 o6)
  have c11 := fun K hK => rname_at (K := K) hG hon hrd hp.topo (by omega) hK
  ((conv => whnf); repeat ((first | refine SIf.df (show ¬ ((p.tols.length : Nat) : Int) < (p.tols.length : Nat) by omega) ?_ | refine SCall.app (c11 _) ?_ | refine SEx.of (b0) ?_ | refine yf rfl ?_ | refine yt rfl ?_ | refine yo rfl ?_ | refine yc rfl ?_ | refine ys rfl ?_ | refine ye rfl ?_ | refine yn rfl ?_ | refine zw ?_ | refine zdt ?_ | refine zdf ?_ | refine znt ?_ | refine znf ?_ | refine zcd ?_ | refine zci ?_ | refine zc3 ?_) <;> (conv => whnf)))
  intro h11 r11 k11
  rw [e12] at r11
  have c12 := fun K hK => rterms2_at (K := K) hG hon r11 hp.small.anti hp.anti (by omega) hK
  ((conv => whnf); repeat ((first | refine SCall.app (c12 _) ?_ | refine SEx.of (b0) ?_ | refine SEx.of (q1 _) ?_ | refine yf rfl ?_ | refine yt rfl ?_ | refine yo rfl ?_ | refine yc rfl ?_ | refine ys rfl ?_ | refine ye rfl ?_ | refine yn rfl ?_ | refine zw ?_ | refine zdt ?_ | refine zdf ?_ | refine znt ?_ | refine znf ?_ | refine zcd ?_ | refine zci ?_ | refine zc3 ?_) <;> (conv => whnf)))
  intro h12 m12 r12 k12
  rw [e13] at r12
  have c13 := fun K hK => rnumI_at (K := K) hG r12 (by omega) hp.skew.1 (by show p.skew < (256 : Int); exact hp.skew.2) (by have := hp.skew.2; omega) (by omega) hK
  ((conv => whnf); repeat ((first | refine SCall.app (c13 _) ?_ | refine SEx.of (b0) ?_ | refine SEx.of (q1 _) ?_ | refine SEx.of (q2 _ _) ?_ | refine yf rfl ?_ | refine yt rfl ?_ | refine yo rfl ?_ | refine yc rfl ?_ | refine ys rfl ?_ | refine ye rfl ?_ | refine yn rfl ?_ | refine zw ?_ | refine zdt ?_ | refine zdf ?_ | refine znt ?_ | refine znf ?_ | refine zcd ?_ | refine zci ?_ | refine zc3 ?_) <;> (conv => whnf)))
  intro h13 r13 k13
  rw [e14] at r13
  have c14 := fun K hK => rterms2_at (K := K) hG hon r13 hp.small.even hp.even (by omega) hK
  ((conv => whnf); repeat ((first | refine SCall.app (c14 _) ?_ | refine SEx.of (b0) ?_ | refine SEx.of (q1 _) ?_ | refine SEx.of (q2 _ _) ?_ | refine SEx.of (q3 _ _ _) ?_ | refine yf rfl ?_ | refine yt rfl ?_ | refine yo rfl ?_ | refine yc rfl ?_ | refine ys rfl ?_ | refine ye rfl ?_ | refine yn rfl ?_ | refine zw ?_ | refine zdt ?_ | refine zdf ?_ | refine znt ?_ | refine znf ?_ | refine zcd ?_ | refine zci ?_ | refine zc3 ?_) <;> (conv => whnf)))
  intro h14 m14 r14 k14
  rw [e15] at r14
  have c15 := fun K hK => rname_at (K := K) hG hon r14 hp.node (by omega) hK
  ((conv => whnf); repeat ((first | refine SCall.app (c15 _) ?_ | refine SEx.of (b0) ?_ | refine SEx.of (q1 _) ?_ | refine SEx.of (q2 _ _) ?_ | refine SEx.of (q3 _ _ _) ?_ | refine SEx.of (q4 _ _ _ _) ?_ | refine yf rfl ?_ | refine yt rfl ?_ | refine yo rfl ?_ | refine yc rfl ?_ | refine ys rfl ?_ | refine ye rfl ?_ | refine yn rfl ?_ | refine zw ?_ | refine zdt ?_ | refine zdf ?_ | refine znt ?_ | refine znf ?_ | refine zcd ?_ | refine zci ?_ | refine zc3 ?_) <;> (conv => whnf)))
  intro h15 r15 k15
  rw [e16] at r15
  have c16 := fun K hK => rnumI_at (K := K) hG r15 (by omega) hp.term.1 (by show p.term < (18446744073709551616 : Int); have := hp.term.2; omega) hp.term.2 (by omega) hK
  ((conv => whnf); repeat ((first | refine SCall.app (c16 _) ?_ | refine SEx.of (b0) ?_ | refine SEx.of (q1 _) ?_ | refine SEx.of (q2 _ _) ?_ | refine SEx.of (q3 _ _ _) ?_ | refine SEx.of (q4 _ _ _ _) ?_ | refine SEx.of (q5 _ _ _ _ _) ?_ | refine yf rfl ?_ | refine yt rfl ?_ | refine yo rfl ?_ | refine yc rfl ?_ | refine ys rfl ?_ | refine ye rfl ?_ | refine yn rfl ?_ | refine zw ?_ | refine zdt ?_ | refine zdf ?_ | refine znt ?_ | refine znf ?_ | refine zcd ?_ | refine zci ?_ | refine zc3 ?_) <;> (conv => whnf)))
  intro h16 r16 k16
  rw [e17] at r16
  have kk16 := (((((hk.trans k11).trans k12).trans k13).trans k14).trans k15).trans k16
  have hSl : (S0.map byR).length = S0.length := List.length_map _
  have cE := fun K hK => rend_at (K := K) hG r16 hK
  have cP := fun K hK => wput_at (K := K) hG hon p hp.small hm (h := h16) hK
  have cQ := fun (h' : Heap) K hK => beq_at (K := K) (h := h') hG S0 hK
  rw [hS0] at cP
  rcases hpv with ⟨hpv0, rfl⟩ | ⟨t1, rfl, _, _, _, hpn⟩ <;> rcases htv with ⟨htv0, rfl⟩ | ⟨t2, rfl, _, _, _, htn⟩
  · have hp0 : p.ports = [] := by simpa using hpv0
    have ht0 : p.tols = [] := by simpa using htv0
    have hpod : podR p = [.s p.name, .i .i64 p.uid, .i .i64 p.prio, .i .i64 p.req.a, .i .i64 p.req.b, .i .i64 p.req.c, .sl none 1 [], .sl none 2 (p.labels.map pairR), .sl none 3 (p.sel.map termR), .sl none 3 [], .s p.topo, .sl none 3 (p.anti.map termR), .i .i64 p.skew, .sl none 3 (p.even.map termR), .s p.node, .i .i64 p.term] := by unfold podR; rw [hp0, ht0]; rfl
    have hcel : CeL ren0 ⟨0, 0⟩ noFz [.s p.name, .i .i64 p.uid, .i .i64 p.prio, .i .i64 p.req.a, .i .i64 p.req.b, .i .i64 p.req.c, .nils, .sl none 2 (p.labels.map pairR), .sl none 3 (p.sel.map termR), .nils, .s p.topo, .sl none 3 (p.anti.map termR), .i .i64 p.skew, .sl none 3 (p.even.map termR), .s p.node, .i .i64 p.term] (podR p) := by
      rw [hpod]
      exact (by ((repeat (first | exact trivial | refine ⟨by first | exact ce_flat rfl | exact .nil | exact .tok | exact .ren rfl (Nat.le_of_ble_eq_true rfl) | exact .rows (by ((repeat (first | exact .nil | refine .cons (by ((repeat (first | exact .nil | refine .cons (by first | exact .refl _ | exact .nil _) ?_)); first | done | fail)) ?_)); first | done | fail)), ?_⟩)); first | done | fail))
    ((conv => whnf); repeat ((first | refine SCall.app (cE _) ?_ | refine SIf.df (show ¬ ((S0.map byR).length : Int) = 0 by omega) ?_ | refine SEx.of (b0) ?_ | refine SEx.of (q1 _) ?_ | refine SEx.of (q2 _ _) ?_ | refine SEx.of (q3 _ _ _) ?_ | refine SEx.of (q4 _ _ _ _) ?_ | refine SEx.of (q5 _ _ _ _ _) ?_ | refine SEx.of (q6 _ _ _ _ _ _) ?_ | refine yf rfl ?_ | refine yt rfl ?_ | refine yo rfl ?_ | refine yc rfl ?_ | refine ys rfl ?_ | refine ye rfl ?_ | refine yn rfl ?_ | refine zw ?_ | refine zdt ?_ | refine zdf ?_ | refine znt ?_ | refine znf ?_ | refine zcd ?_ | refine zci ?_ | refine zc3 ?_) <;> (conv => whnf)))
    refine SCall.mk (ACall.less (args' := [.agg (podR p)]) (hr := ⟨.inr (.inl ⟨_, _, rfl, rfl, hcel⟩), trivial⟩) (h0 := cP _ fun h' kh' => ?_))
    ((conv => whnf); repeat ((first | refine SCall.app (cQ h' _) ?_ | refine SEx.of (b0) ?_ | refine SEx.of (q1 _) ?_ | refine SEx.of (q2 _ _) ?_ | refine SEx.of (q3 _ _ _) ?_ | refine SEx.of (q4 _ _ _ _) ?_ | refine SEx.of (q5 _ _ _ _ _) ?_ | refine SEx.of (q6 _ _ _ _ _ _) ?_ | refine SEx.of (z6 _ _ _ _ _ _) ?_ | refine yf rfl ?_ | refine yt rfl ?_ | refine yo rfl ?_ | refine yc rfl ?_ | refine ys rfl ?_ | refine ye rfl ?_ | refine yn rfl ?_ | refine zw ?_ | refine zdt ?_ | refine zdf ?_ | refine znt ?_ | refine znf ?_ | refine zcd ?_ | refine zci ?_ | refine zc3 ?_) <;> (conv => whnf)))
    have kAll : Heap.Keeps (fun _ => False) h h' := (Heap.Keeps.trans (b := fun n => n = h.next) (kA.mono fun _ _ e => e.elim) (Heap.Keeps.trans (b := fun n => n = h.next) kk16 (kh'.mono fun _ _ e => e.elim))).mono fun n hn e => absurd hn (by omega)
    refine res_go (rs := AF.f87.results) (v := .tup [.agg [.s p.name, .i .i64 p.uid, .i .i64 p.prio, .i .i64 p.req.a, .i .i64 p.req.b, .i .i64 p.req.c, .nils, .sl none 2 (p.labels.map pairR), .sl none 3 (p.sel.map termR), .nils, .s p.topo, .sl none 3 (p.anti.map termR), .i .i64 p.skew, .sl none 3 (p.even.map termR), .s p.node, .i .i64 p.term], .b true]) ?_ (hK _ _ hcel kAll)
    exact resOf_cell rfl (z7 _ _ _ _ _ _ _) rfl rfl rfl
  · have hp0 : p.ports = [] := by simpa using hpv0
    have hpod : podR p = [.s p.name, .i .i64 p.uid, .i .i64 p.prio, .i .i64 p.req.a, .i .i64 p.req.b, .i .i64 p.req.c, .sl none 1 [], .sl none 2 (p.labels.map pairR), .sl none 3 (p.sel.map termR), .sl none 3 (p.tols.map tolR), .s p.topo, .sl none 3 (p.anti.map termR), .i .i64 p.skew, .sl none 3 (p.even.map termR), .s p.node, .i .i64 p.term] := by unfold podR; rw [hp0]; rfl
    have hcel : CeL ren0 ⟨0, 0⟩ noFz [.s p.name, .i .i64 p.uid, .i .i64 p.prio, .i .i64 p.req.a, .i .i64 p.req.b, .i .i64 p.req.c, .nils, .sl none 2 (p.labels.map pairR), .sl none 3 (p.sel.map termR), .sl none 3 (p.tols.map tolR), .s p.topo, .sl none 3 (p.anti.map termR), .i .i64 p.skew, .sl none 3 (p.even.map termR), .s p.node, .i .i64 p.term] (podR p) := by
      rw [hpod]
      exact (by ((repeat (first | exact trivial | refine ⟨by first | exact ce_flat rfl | exact .nil | exact .tok | exact .ren rfl (Nat.le_of_ble_eq_true rfl) | exact .rows (by ((repeat (first | exact .nil | refine .cons (by ((repeat (first | exact .nil | refine .cons (by first | exact .refl _ | exact .nil _) ?_)); first | done | fail)) ?_)); first | done | fail)), ?_⟩)); first | done | fail))
    ((conv => whnf); repeat ((first | refine SCall.app (cE _) ?_ | refine SIf.df (show ¬ ((S0.map byR).length : Int) = 0 by omega) ?_ | refine SEx.of (b0) ?_ | refine SEx.of (q1 _) ?_ | refine SEx.of (q2 _ _) ?_ | refine SEx.of (q3 _ _ _) ?_ | refine SEx.of (q4 _ _ _ _) ?_ | refine SEx.of (q5 _ _ _ _ _) ?_ | refine SEx.of (q6 _ _ _ _ _ _) ?_ | refine yf rfl ?_ | refine yt rfl ?_ | refine yo rfl ?_ | refine yc rfl ?_ | refine ys rfl ?_ | refine ye rfl ?_ | refine yn rfl ?_ | refine zw ?_ | refine zdt ?_ | refine zdf ?_ | refine znt ?_ | refine znf ?_ | refine zcd ?_ | refine zci ?_ | refine zc3 ?_) <;> (conv => whnf)))
    refine SCall.mk (ACall.less (args' := [.agg (podR p)]) (hr := ⟨.inr (.inl ⟨_, _, rfl, rfl, hcel⟩), trivial⟩) (h0 := cP _ fun h' kh' => ?_))
    ((conv => whnf); repeat ((first | refine SCall.app (cQ h' _) ?_ | refine SEx.of (b0) ?_ | refine SEx.of (q1 _) ?_ | refine SEx.of (q2 _ _) ?_ | refine SEx.of (q3 _ _ _) ?_ | refine SEx.of (q4 _ _ _ _) ?_ | refine SEx.of (q5 _ _ _ _ _) ?_ | refine SEx.of (q6 _ _ _ _ _ _) ?_ | refine SEx.of (z6 _ _ _ _ _ _) ?_ | refine yf rfl ?_ | refine yt rfl ?_ | refine yo rfl ?_ | refine yc rfl ?_ | refine ys rfl ?_ | refine ye rfl ?_ | refine yn rfl ?_ | refine zw ?_ | refine zdt ?_ | refine zdf ?_ | refine znt ?_ | refine znf ?_ | refine zcd ?_ | refine zci ?_ | refine zc3 ?_) <;> (conv => whnf)))
    have kAll : Heap.Keeps (fun _ => False) h h' := (Heap.Keeps.trans (b := fun n => n = h.next) (kA.mono fun _ _ e => e.elim) (Heap.Keeps.trans (b := fun n => n = h.next) kk16 (kh'.mono fun _ _ e => e.elim))).mono fun n hn e => absurd hn (by omega)
    refine res_go (rs := AF.f87.results) (v := .tup [.agg [.s p.name, .i .i64 p.uid, .i .i64 p.prio, .i .i64 p.req.a, .i .i64 p.req.b, .i .i64 p.req.c, .nils, .sl none 2 (p.labels.map pairR), .sl none 3 (p.sel.map termR), .sl none 3 (p.tols.map tolR), .s p.topo, .sl none 3 (p.anti.map termR), .i .i64 p.skew, .sl none 3 (p.even.map termR), .s p.node, .i .i64 p.term], .b true]) ?_ (hK _ _ hcel kAll)
    exact resOf_cell rfl (z7 _ _ _ _ _ _ _) rfl rfl rfl
  · have ht0 : p.tols = [] := by simpa using htv0
    have hpod : podR p = [.s p.name, .i .i64 p.uid, .i .i64 p.prio, .i .i64 p.req.a, .i .i64 p.req.b, .i .i64 p.req.c, .sl none 1 (p.ports.map intR), .sl none 2 (p.labels.map pairR), .sl none 3 (p.sel.map termR), .sl none 3 [], .s p.topo, .sl none 3 (p.anti.map termR), .i .i64 p.skew, .sl none 3 (p.even.map termR), .s p.node, .i .i64 p.term] := by unfold podR; rw [ht0]; rfl
    have hcel : CeL ren0 ⟨0, 0⟩ noFz [.s p.name, .i .i64 p.uid, .i .i64 p.prio, .i .i64 p.req.a, .i .i64 p.req.b, .i .i64 p.req.c, .sl none 1 (p.ports.map intR), .sl none 2 (p.labels.map pairR), .sl none 3 (p.sel.map termR), .nils, .s p.topo, .sl none 3 (p.anti.map termR), .i .i64 p.skew, .sl none 3 (p.even.map termR), .s p.node, .i .i64 p.term] (podR p) := by
      rw [hpod]
      exact (by ((repeat (first | exact trivial | refine ⟨by first | exact ce_flat rfl | exact .nil | exact .tok | exact .ren rfl (Nat.le_of_ble_eq_true rfl) | exact .rows (by ((repeat (first | exact .nil | refine .cons (by ((repeat (first | exact .nil | refine .cons (by first | exact .refl _ | exact .nil _) ?_)); first | done | fail)) ?_)); first | done | fail)), ?_⟩)); first | done | fail))
    ((conv => whnf); repeat ((first | refine SCall.app (cE _) ?_ | refine SIf.df (show ¬ ((S0.map byR).length : Int) = 0 by omega) ?_ | refine SEx.of (b0) ?_ | refine SEx.of (q1 _) ?_ | refine SEx.of (q2 _ _) ?_ | refine SEx.of (q3 _ _ _) ?_ | refine SEx.of (q4 _ _ _ _) ?_ | refine SEx.of (q5 _ _ _ _ _) ?_ | refine SEx.of (q6 _ _ _ _ _ _) ?_ | refine yf rfl ?_ | refine yt rfl ?_ | refine yo rfl ?_ | refine yc rfl ?_ | refine ys rfl ?_ | refine ye rfl ?_ | refine yn rfl ?_ | refine zw ?_ | refine zdt ?_ | refine zdf ?_ | refine znt ?_ | refine znf ?_ | refine zcd ?_ | refine zci ?_ | refine zc3 ?_) <;> (conv => whnf)))
    refine SCall.mk (ACall.less (args' := [.agg (podR p)]) (hr := ⟨.inr (.inl ⟨_, _, rfl, rfl, hcel⟩), trivial⟩) (h0 := cP _ fun h' kh' => ?_))
    ((conv => whnf); repeat ((first | refine SCall.app (cQ h' _) ?_ | refine SEx.of (b0) ?_ | refine SEx.of (q1 _) ?_ | refine SEx.of (q2 _ _) ?_ | refine SEx.of (q3 _ _ _) ?_ | refine SEx.of (q4 _ _ _ _) ?_ | refine SEx.of (q5 _ _ _ _ _) ?_ | refine SEx.of (q6 _ _ _ _ _ _) ?_ | refine SEx.of (z6 _ _ _ _ _ _) ?_ | refine yf rfl ?_ | refine yt rfl ?_ | refine yo rfl ?_ | refine yc rfl ?_ | refine ys rfl ?_ | refine ye rfl ?_ | refine yn rfl ?_ | refine zw ?_ | refine zdt ?_ | refine zdf ?_ | refine znt ?_ | refine znf ?_ | refine zcd ?_ | refine zci ?_ | refine zc3 ?_) <;> (conv => whnf)))
    have kAll : Heap.Keeps (fun _ => False) h h' := (Heap.Keeps.trans (b := fun n => n = h.next) (kA.mono fun _ _ e => e.elim) (Heap.Keeps.trans (b := fun n => n = h.next) kk16 (kh'.mono fun _ _ e => e.elim))).mono fun n hn e => absurd hn (by omega)
    refine res_go (rs := AF.f87.results) (v := .tup [.agg [.s p.name, .i .i64 p.uid, .i .i64 p.prio, .i .i64 p.req.a, .i .i64 p.req.b, .i .i64 p.req.c, .sl none 1 (p.ports.map intR), .sl none 2 (p.labels.map pairR), .sl none 3 (p.sel.map termR), .nils, .s p.topo, .sl none 3 (p.anti.map termR), .i .i64 p.skew, .sl none 3 (p.even.map termR), .s p.node, .i .i64 p.term], .b true]) ?_ (hK _ _ hcel kAll)
    exact resOf_cell rfl (z7 _ _ _ _ _ _ _) rfl rfl rfl
  · have hpod : podR p = [.s p.name, .i .i64 p.uid, .i .i64 p.prio, .i .i64 p.req.a, .i .i64 p.req.b, .i .i64 p.req.c, .sl none 1 (p.ports.map intR), .sl none 2 (p.labels.map pairR), .sl none 3 (p.sel.map termR), .sl none 3 (p.tols.map tolR), .s p.topo, .sl none 3 (p.anti.map termR), .i .i64 p.skew, .sl none 3 (p.even.map termR), .s p.node, .i .i64 p.term] := rfl
    have hcel : CeL ren0 ⟨0, 0⟩ noFz [.s p.name, .i .i64 p.uid, .i .i64 p.prio, .i .i64 p.req.a, .i .i64 p.req.b, .i .i64 p.req.c, .sl none 1 (p.ports.map intR), .sl none 2 (p.labels.map pairR), .sl none 3 (p.sel.map termR), .sl none 3 (p.tols.map tolR), .s p.topo, .sl none 3 (p.anti.map termR), .i .i64 p.skew, .sl none 3 (p.even.map termR), .s p.node, .i .i64 p.term] (podR p) := by
      rw [hpod]
      exact (by ((repeat (first | exact trivial | refine ⟨by first | exact ce_flat rfl | exact .nil | exact .tok | exact .ren rfl (Nat.le_of_ble_eq_true rfl) | exact .rows (by ((repeat (first | exact .nil | refine .cons (by ((repeat (first | exact .nil | refine .cons (by first | exact .refl _ | exact .nil _) ?_)); first | done | fail)) ?_)); first | done | fail)), ?_⟩)); first | done | fail))
    ((conv => whnf); repeat ((first | refine SCall.app (cE _) ?_ | refine SIf.df (show ¬ ((S0.map byR).length : Int) = 0 by omega) ?_ | refine SEx.of (b0) ?_ | refine SEx.of (q1 _) ?_ | refine SEx.of (q2 _ _) ?_ | refine SEx.of (q3 _ _ _) ?_ | refine SEx.of (q4 _ _ _ _) ?_ | refine SEx.of (q5 _ _ _ _ _) ?_ | refine SEx.of (q6 _ _ _ _ _ _) ?_ | refine yf rfl ?_ | refine yt rfl ?_ | refine yo rfl ?_ | refine yc rfl ?_ | refine ys rfl ?_ | refine ye rfl ?_ | refine yn rfl ?_ | refine zw ?_ | refine zdt ?_ | refine zdf ?_ | refine znt ?_ | refine znf ?_ | refine zcd ?_ | refine zci ?_ | refine zc3 ?_) <;> (conv => whnf)))
    refine SCall.mk (ACall.less (args' := [.agg (podR p)]) (hr := ⟨.inr (.inl ⟨_, _, rfl, rfl, hcel⟩), trivial⟩) (h0 := cP _ fun h' kh' => ?_))
    ((conv => whnf); repeat ((first | refine SCall.app (cQ h' _) ?_ | refine SEx.of (b0) ?_ | refine SEx.of (q1 _) ?_ | refine SEx.of (q2 _ _) ?_ | refine SEx.of (q3 _ _ _) ?_ | refine SEx.of (q4 _ _ _ _) ?_ | refine SEx.of (q5 _ _ _ _ _) ?_ | refine SEx.of (q6 _ _ _ _ _ _) ?_ | refine SEx.of (z6 _ _ _ _ _ _) ?_ | refine yf rfl ?_ | refine yt rfl ?_ | refine yo rfl ?_ | refine yc rfl ?_ | refine ys rfl ?_ | refine ye rfl ?_ | refine yn rfl ?_ | refine zw ?_ | refine zdt ?_ | refine zdf ?_ | refine znt ?_ | refine znf ?_ | refine zcd ?_ | refine zci ?_ | refine zc3 ?_) <;> (conv => whnf)))
    have kAll : Heap.Keeps (fun _ => False) h h' := (Heap.Keeps.trans (b := fun n => n = h.next) (kA.mono fun _ _ e => e.elim) (Heap.Keeps.trans (b := fun n => n = h.next) kk16 (kh'.mono fun _ _ e => e.elim))).mono fun n hn e => absurd hn (by omega)
    refine res_go (rs := AF.f87.results) (v := .tup [.agg [.s p.name, .i .i64 p.uid, .i .i64 p.prio, .i .i64 p.req.a, .i .i64 p.req.b, .i .i64 p.req.c, .sl none 1 (p.ports.map intR), .sl none 2 (p.labels.map pairR), .sl none 3 (p.sel.map termR), .sl none 3 (p.tols.map tolR), .s p.topo, .sl none 3 (p.anti.map termR), .i .i64 p.skew, .sl none 3 (p.even.map termR), .s p.node, .i .i64 p.term], .b true]) ?_ (hK _ _ hcel kAll)
    exact resOf_cell rfl (z7 _ _ _ _ _ _ _) rfl rfl rfl
end
end Go.Eng
/-
A pod that was put is got.
-/
namespace Go.Eng
open Go
theorem rel_pair {cs ds : List V} {b : Bool} (hc : CeL ren0 ⟨0, 0⟩ noFz cs ds) (E : Env) (x : Value) (h : Rel E (.tup [.agg cs, .b b]) x) : Rel E (.tup [.agg ds, .b b]) x := by
  cases h with
  | deep hd => cases hd
  | tup _ xs hn hr =>
    refine .tup _ _ (by simpa using hn) fun j v x hj hx => ?_
    match j with
    | 0 =>
      simp at hj; subst hj
      exact ce1_nw (.inr (.inl ⟨_, _, rfl, rfl, hc⟩)) (hr 0 _ x rfl hx)
    | 1 =>
      simp at hj; subst hj
      exact hr 1 _ x rfl hx
    | j + 2 => simp at hj
section
variable {P : Program} (hG : FnsOk P AF.fns.get)
include hG
theorem rget_at (hon : OnceOk P 161) (p : PodD) (hp : PodRead p) (hm : Pure P 66 [.agg (podR p)] (· = .b true)) {h : Heap} {K : V → Heap → Prop}
    (hK : ∀ h', Heap.Keeps (fun _ => False) h h' → K (.tup [.agg (podR p), .b true]) h') : ACall P 87 [.sl none 1 ((encPod p).map byR)] h K := by
  refine ACall.more (rget0_at hG hon p hp hm (K := fun v h' => ∃ cs, v = .tup [.agg cs, .b true] ∧ CeL ren0 ⟨0, 0⟩ noFz cs (podR p) ∧ K (.tup [.agg (podR p), .b true]) h') fun cs h' hc hk => ⟨cs, rfl, hc, hK h' hk⟩) ?_
  rintro v h' ⟨cs, rfl, hc, hk⟩
  exact ⟨_, fun E x hx => rel_pair hc E x hx, hk⟩
end
end Go.Eng
