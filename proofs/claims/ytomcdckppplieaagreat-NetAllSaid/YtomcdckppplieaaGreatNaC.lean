/-
NetAll: mail that is sent, taken from any place, kept, lost.
-/
import Derived.Test.YtomcdckppplieaaGreatNaB
import Derived.Test.YtomcdckppplieaaGreatFitD
import Derived.Test.YtomcdckppplieaaGreatArgX
import Derived.Test.YtomcdckppplieaaGreatAfNA
import Derived.Test.YtomcdckppplieaaGreatEngSymV
namespace Go.Eng
open Go
structure NopD where
  kind : Int
  i : Int
  keep : Bool
  m : MailD
def nopR (o : NopD) : List V := [.i .i64 o.kind, .i .i64 o.i, .b o.keep, .b o.m.rep, .i .i64 o.m.who, .sl none 1 (o.m.b.map byR)]
/-- The law's own row of mail. -/
def WAt (lo : Heap) (wv : V) (L : List MailD) : Prop := (wv = .nils ∧ L = []) ∨ ∃ t, wv = .sl (some (.l t)) 3 (L.map mailR) ∧ t < lo.next ∧ lo.get t = some .spare
theorem NetAt.keep {h h' : Heap} {a : Nat} {most : Int} {L : List MailD} (ha : NetAt h a most L) (hk : Heap.Keeps (fun n => h.next ≤ n) h h') : NetAt h' a most L := by
  obtain ⟨han, ⟨rfl, h1⟩ | ⟨c, d, hca, hcn, h1, h2⟩⟩ := ha
  · exact ⟨Nat.lt_of_lt_of_le han hk.1, .inl ⟨rfl, by rw [hk.2 a han (by omega)]; exact h1⟩⟩
  · exact ⟨Nat.lt_of_lt_of_le han hk.1, .inr ⟨c, d, hca, Nat.lt_of_lt_of_le hcn hk.1, by rw [hk.2 a han (by omega)]; exact h1, by rw [hk.2 c hcn (by omega)]; exact h2⟩⟩
section
variable {P : Program} (hG : FnsOk P AF.fns.get)
include hG
set_option maxHeartbeats 16000000 in
set_option maxRecDepth 20000 in
theorem netAll_ok (hk : okFn P 6 AF.na = true) (hcl : okFn P 89 AF.clm = true) (hal : okFn P 28 AF.am = true) (hb : ACall P 7 [] noG (fun r _ => r = .b true)) (most : Int) (ops : List NopD) (_hl : ops.length ≤ 9223372036854775807) :
    ACall P 6 [.i .i64 most, .sl none 6 (ops.map nopR)] noG (fun r _ => r = .b true) := by
  have hlm : (ops.map nopR).length = ops.length := List.length_map _
  refine fn_sv hk rfl ?_
  ((conv => whnf); repeat ((first | refine yf rfl ?_ | refine yt rfl ?_ | refine yo rfl ?_ | refine yc rfl ?_ | refine ys rfl ?_ | refine ye rfl ?_ | refine yn rfl ?_ | refine zw ?_ | refine zdt ?_ | refine zdf ?_ | refine znt ?_ | refine znf ?_ | refine zcd ?_ | refine zci ?_ | refine zc3 ?_) <;> (conv => whnf)))
  refine ⟨hb.frame rfl fun v h' hv => ?_⟩
  subst hv
  refine ⟨rfl, ?_⟩
  obtain ⟨M, hM⟩ : ∃ M, M = (if 1 < (if 1000 < most then 1000 else most) then (if 1000 < most then (1000 : Int) else most) else 1) := ⟨_, rfl⟩
  have hM1 : 1 ≤ M ∧ M ≤ 1000 := by rw [hM]; split <;> split at * <;> omega
  have q1 : mnmxFold true (.i .i64 most) [.i .i64 1] = some (.i .i64 (if most < 1 then 1 else most)) := mx2 rfl
  have q2 : mnmxFold false (.i .i64 (if most < 1 then 1 else most)) [.i .i64 1000] = some (.i .i64 M) := mn2 (by rw [hM]; split <;> split <;> split <;> omega)
  have q3 : mnmxFold false (.i .i64 most) [.i .i64 1000] = some (.i .i64 (if 1000 < most then 1000 else most)) := mn2 rfl
  have q4 : mnmxFold true (.i .i64 1) [.i .i64 (if 1000 < most then 1000 else most)] = some (.i .i64 M) := mx2 hM.symm
  ((conv => whnf); repeat ((first | refine SCall.app (fn_sv (hG _ _ rfl) rfl) ?_ | refine SOpt.of q1 ?_ | refine SOpt.of q2 ?_ | refine SOpt.of q3 ?_ | refine SOpt.of q4 ?_ | refine yf rfl ?_ | refine yt rfl ?_ | refine yo rfl ?_ | refine yc rfl ?_ | refine ys rfl ?_ | refine ye rfl ?_ | refine yn rfl ?_ | refine zw ?_ | refine zdt ?_ | refine zdf ?_ | refine znt ?_ | refine znf ?_ | refine zcd ?_ | refine zci ?_ | refine zc3 ?_) <;> (conv => whnf)))
  refine SLoopV.by (fun q fr st => ∃ (i : Nat) (L : List MailD) (h lo : Heap) (wv : V), q = 60 - i ∧ i ≤ 60 ∧ L.length ≤ i ∧ (∀ m ∈ L, m.b.length ≤ 30) ∧ NetAt h 0 M L ∧ WAt lo wv L ∧
      Fr.le [(8, .i .i64 i), (7, wv), (6, .p (.g 0) 0), (1, .sl none 6 (ops.map nopR)), (0, .i .i64 M)] fr ∧ st = ⟨h, lo⟩)
    60 ⟨0, [], _, _, .nils, rfl, by omega, Nat.le_refl _, (fun m h => by cases h), ⟨Nat.zero_lt_one, .inl ⟨rfl, rfl⟩⟩, .inl ⟨rfl, rfl⟩, (by repeat (first | exact Fr.le_nil | refine Fr.le_cons rfl ?_)), rfl⟩ ?_
  rintro q fr st ⟨i, L, h, lo, wv, rfl, hi60, hLi, hroom, hat, hw, hle0, rfl⟩
  refine ⟨_, hle0, fun R hR => ?_⟩
  have hlml : (L.map mailR).length = L.length := List.length_map _
  have hle := fun K => len_at (K := K) hG hat
  by_cases hin : i < ops.length ∧ i < 60
  · obtain ⟨hi1, hi2⟩ := hin
    have he := List.getElem?_eq_getElem hi1
    generalize ops[i] = e at he
    have hbl : (e.m.b.map byR).length = e.m.b.length := List.length_map _
    obtain ⟨Q, hQ⟩ : ∃ Q, Q = min e.m.b.length 30 := ⟨_, rfl⟩
    obtain ⟨T, hT⟩ : ∃ T, T = e.m.b.take Q := ⟨_, rfl⟩
    have hTl : T.length ≤ 30 := by rw [hT]; simp; omega
    have hN : List.drop (Int.toNat 0) (List.take (Q : Int).toNat (List.map byR e.m.b)) = T.map byR := by rw [hT, List.map_take]; rfl
    have a1 : ∀ o, (lo.push o).get lo.next = some o := fun o => Heap.get_push_self _ _
    have a2 : ∀ o o2, ((lo.push o).set lo.next o2).get lo.next = some o2 := fun o o2 => Heap.get_set_self (Heap.get_push_self _ _)
    have a3 : ∀ o o2 o3, (((lo.push o).set lo.next o2).set lo.next o3).get lo.next = some o3 := fun o o2 o3 => Heap.get_set_self (Heap.get_set_self (Heap.get_push_self _ _))
    have hmT : mailR ⟨e.m.who, T, e.m.rep⟩ = [.b e.m.rep, .i .i64 e.m.who, .sl none 1 (T.map byR)] := rfl
    have hsend := fun (hlt : L.length < M) (K : V → Heap → Prop) (hK : ∀ h', NetAt h' 0 M (L ++ [⟨e.m.who, T, e.m.rep⟩]) → K (.b true) h') => send_at (K := K) hG (m := ⟨e.m.who, T, e.m.rep⟩) hat (by omega) (by show T.length ≤ 1000; omega) (fun hf => absurd hf (by omega)) fun _ => hK
    have hsend0 := fun (hlt : M ≤ L.length) (K : V → Heap → Prop) (hK : K (.b false) h) => send_at (K := K) hG (m := ⟨e.m.who, T, e.m.rep⟩) hat (by omega) (by show T.length ≤ 1000; omega) (fun _ => hK) fun hf => absurd hf (by omega)
    have hroomT : ∀ m ∈ L ++ [⟨e.m.who, T, e.m.rep⟩], m.b.length ≤ 30 := fun m hm => by
      rcases List.mem_append.1 hm with h5 | h5
      · exact hroom m h5
      · rw [List.mem_singleton.1 h5]; exact hTl

    have a4 : ∀ o o2 o3 p q, (((((lo.push o).set lo.next o2).set lo.next o3).push p).set (lo.next + 1) q).get lo.next = some o3 := fun o o2 o3 p q => Heap.gs (by omega) (Heap.gp (by show lo.next ≠ lo.next + 1; omega) (a3 _ _ _))
    have a5 : ∀ o o2 o3 p, ((((lo.push o).set lo.next o2).set lo.next o3).push p).get (lo.next + 1) = some p := fun o o2 o3 p => Heap.get_push_self _ _
    have a6 : ∀ o o2 o3 p q, (((((lo.push o).set lo.next o2).set lo.next o3).push p).set (lo.next + 1) q).get (lo.next + 1) = some q := fun o o2 o3 p q => Heap.get_set_self (Heap.get_push_self _ _)
    rcases hw with ⟨rfl, rfl⟩ | ⟨t, rfl, ht1, ht2⟩
    · by_cases hkind : e.kind = 0
      · ((conv => whnf); repeat ((first | refine SOpt.of (mn2 (z := (Q : Int)) (by rw [hbl]; split <;> omega)) ?_ | refine SIf.dt hkind ?_ | refine SEx.of (map_get' (by omega) he) ?_ | refine SEx.of (a1 _) ?_ | refine SEx.of (a2 _ _) ?_ | refine SEx.of (a3 _ _ _) ?_ | refine SEx.of (a4 _ _ _ _ _) ?_ | refine SEx.of (a5 _ _ _ _) ?_ | refine SEx.of (a6 _ _ _ _ _) ?_ | refine yf rfl ?_ | refine yt rfl ?_ | refine yo rfl ?_ | refine yc rfl ?_ | refine ys rfl ?_ | refine ye rfl ?_ | refine yn rfl ?_ | refine zw ?_ | refine zdt ?_ | refine zdf ?_ | refine znt ?_ | refine znf ?_ | refine zcd ?_ | refine zci ?_ | refine zc3 ?_) <;> (conv => whnf)))
        rw [hN]
        ((conv => whnf); repeat ((first | refine SCall.app (hsend (by simp; omega) _) ?_ | refine yf rfl ?_ | refine yt rfl ?_ | refine yo rfl ?_ | refine yc rfl ?_ | refine ys rfl ?_ | refine ye rfl ?_ | refine yn rfl ?_ | refine zw ?_ | refine zdt ?_ | refine zdf ?_ | refine znt ?_ | refine znf ?_ | refine zcd ?_ | refine zci ?_ | refine zc3 ?_) <;> (conv => whnf)))
        intro h2 hat2
        ((conv => whnf); repeat ((first | refine SIf.dt (show (0 : Int) < M by omega) ?_ | refine SIf.ff (by simp; omega) ?_ | refine SEx.of (x := [mailR ⟨e.m.who, T, e.m.rep⟩]) rfl ?_ | refine SEx.of (map_get' (by omega) he) ?_ | refine SEx.of (a1 _) ?_ | refine SEx.of (a2 _ _) ?_ | refine SEx.of (a3 _ _ _) ?_ | refine SEx.of (a4 _ _ _ _ _) ?_ | refine SEx.of (a5 _ _ _ _) ?_ | refine SEx.of (a6 _ _ _ _ _) ?_ | refine yf rfl ?_ | refine yt rfl ?_ | refine yo rfl ?_ | refine yc rfl ?_ | refine ys rfl ?_ | refine ye rfl ?_ | refine yn rfl ?_ | refine zw ?_ | refine zdt ?_ | refine zdf ?_ | refine znt ?_ | refine znf ?_ | refine zcd ?_ | refine zci ?_ | refine zc3 ?_) <;> (conv => whnf)))
        obtain ⟨L2, hL2e⟩ : ∃ L2 : List MailD, L2 = [⟨e.m.who, T, e.m.rep⟩] := ⟨_, rfl⟩
        have hLe : [mailR ⟨e.m.who, T, e.m.rep⟩] = L2.map mailR := by rw [hL2e]; rfl
        have hat2 : NetAt h2 0 M L2 := by rw [hL2e]; exact hat2
        have hroom2 : ∀ m ∈ L2, m.b.length ≤ 30 := by rw [hL2e]; exact hroomT
        have hL2 : L2.length ≤ i + 1 := by rw [hL2e]; simp
        have hne2 : L2 ≠ [] := by rw [hL2e]; simp
        rw [hLe]
        have hlm2 : (L2.map mailR).length = L2.length := List.length_map _
        have hpos2 : 0 < L2.length := List.length_pos_iff.2 hne2
        have hall := fun K => all_at (K := K) hG hcl hal hat2 (by omega) (fun m hm => by have := hroom2 m hm; omega)
        ((conv => whnf); repeat ((first | refine SCall.app (hall _) ?_ | refine SEx.of (map_get' (by omega) he) ?_ | refine SEx.of (a1 _) ?_ | refine SEx.of (a2 _ _) ?_ | refine SEx.of (a3 _ _ _) ?_ | refine SEx.of (a4 _ _ _ _ _) ?_ | refine SEx.of (a5 _ _ _ _) ?_ | refine SEx.of (a6 _ _ _ _ _) ?_ | refine yf rfl ?_ | refine yt rfl ?_ | refine yo rfl ?_ | refine yc rfl ?_ | refine ys rfl ?_ | refine ye rfl ?_ | refine yn rfl ?_ | refine zw ?_ | refine zdt ?_ | refine zdf ?_ | refine znt ?_ | refine znf ?_ | refine zcd ?_ | refine zci ?_ | refine zc3 ?_) <;> (conv => whnf)))
        intro lv Q h3 hQ hA hk3
        have hQl : Q.length = L2.length := by simpa using congrArg List.length hQ
        have hQm : (Q.map amR).length = L2.length := by simpa using hQl
        have hat3 : NetAt h3 0 M L2 := hat2.keep (hk3.mono fun _ _ x => x.elim)
        have hlen3 := fun K => len_at (K := K) hG hat3
        rcases hA.row with ⟨hQ0, _⟩ | ⟨c, hlv, hc1, hc2, hcq, hc3⟩
        · subst hQ0
          exact absurd hQl.symm (by simp; exact hne2)
        subst hlv
        ((conv => whnf); repeat ((first | refine SCall.app (hlen3 _) ?_ | refine SIf.nf (by omega) ?_ | refine SIf.ff (by simp; omega) ?_ | refine SEx.of (map_get' (by omega) he) ?_ | refine SEx.of (a1 _) ?_ | refine SEx.of (a2 _ _) ?_ | refine SEx.of (a3 _ _ _) ?_ | refine SEx.of (a4 _ _ _ _ _) ?_ | refine SEx.of (a5 _ _ _ _) ?_ | refine SEx.of (a6 _ _ _ _ _) ?_ | refine yf rfl ?_ | refine yt rfl ?_ | refine yo rfl ?_ | refine yc rfl ?_ | refine ys rfl ?_ | refine ye rfl ?_ | refine yn rfl ?_ | refine zw ?_ | refine zdt ?_ | refine zdf ?_ | refine znt ?_ | refine znf ?_ | refine zcd ?_ | refine zci ?_ | refine zc3 ?_) <;> (conv => whnf)))
        refine SLoopV.by (fun q fr st => ∃ (k : Nat) (hh lc : Heap), k ≤ L2.length ∧ q = L2.length - k ∧ Heap.Keeps (fun n => h2.next ≤ n) h2 hh ∧ c < hh.next ∧ hh.get c = some (.arr 3 (Q.map amR)) ∧ (∀ j q, k ≤ j → Q[j]? = some q → BAt hh h2.next q.1.b q.2) ∧ lo.next + 1 + 1 < lc.next ∧ lc.get (lo.next + 1 + 1) = some .spare ∧
            Fr.le [(141, .i .i64 k), (140, .i .i64 Q.length), (13, .ms (.g c) 3 0 Q.length), (8, .i .i64 i), (7, .sl (some (.l (lo.next + 1 + 1))) 3 (L2.map mailR)), (6, .p (.g 0) 0), (1, .sl none 6 (ops.map nopR)), (0, .i .i64 M)] fr ∧ st = ⟨hh, lc⟩)
          L2.length ⟨0, h3, _, Nat.zero_le _, rfl, hk3.mono (fun _ _ x => x.elim), hc2, hc3, (fun j q _ hq => hA.its q (List.mem_of_getElem? hq)), Nat.lt_succ_self _, (by repeat (first | exact (Heap.get_push_self _ _) | exact Heap.get_push_self _ _ | refine Heap.gs (by first | omega | (show _ ≠ lo.next + 1; omega) | (show _ ≠ lo.next + 1 + 1; omega) | (show _ ≠ lo.next + 1 + 1 + 1; omega)) ?_ | refine Heap.gp (by first | omega | (show _ ≠ lo.next + 1; omega) | (show _ ≠ lo.next + 1 + 1; omega) | (show _ ≠ lo.next + 1 + 1 + 1; omega)) ?_ | refine Heap.gr (by first | omega | (show _ ≠ lo.next + 1; omega) | (show _ ≠ lo.next + 1 + 1; omega) | (show _ ≠ lo.next + 1 + 1 + 1; omega)) ?_)), (by repeat (first | exact Fr.le_nil | refine Fr.le_cons rfl ?_)), rfl⟩ ?_
        rintro q2 fr2 st2 ⟨k2, hh, lc, hkl, rfl, hkk, hch, hrow, hits, hlc1, hlc2, hle2, rfl⟩
        refine ⟨_, hle2, fun R2 hR2 => ?_⟩
        by_cases hkL : k2 < L2.length
        · have hm2 := List.getElem?_eq_getElem hkL
          generalize L2[k2] = m2 at hm2
          obtain ⟨o2, hq2⟩ : ∃ o2, Q[k2]? = some (m2, o2) := by
            have h5 : (Q.map Prod.fst)[k2]? = some m2 := by rw [hQ]; exact hm2
            rw [List.getElem?_map] at h5
            obtain ⟨⟨a, b⟩, h6, h7⟩ := Option.map_eq_some_iff.1 h5
            dsimp only at h7
            subst h7
            exact ⟨b, h6⟩
          have hbt := hits k2 _ (Nat.le_refl _) hq2
          have hsame := fun K => same_at (K := K) hG (BVal.of hbt)
          have hgq : (Q.map amR)[0 + ((k2 : Nat) : Int).toNat]? = some (amR (m2, o2)) := by rw [Nat.zero_add, Int.toNat_natCast, List.getElem?_map, hq2]; rfl
          have hnext : ∀ hj : Heap, Heap.Keeps (fun n => o2 = some n) hh hj → Heap.Keeps (fun n => h2.next ≤ n) h2 hj ∧ c < hj.next ∧ hj.get c = some (.arr 3 (Q.map amR)) ∧ ∀ j q, k2 + 1 ≤ j → Q[j]? = some q → BAt hj h2.next q.1.b q.2 := by
            intro hj hkj
            have hn := hkj.1
            refine ⟨hkk.trans (hkj.mono fun n _ e => ?_), by omega, ?_, fun j q hjk hq => ?_⟩
            · rw [e] at hbt; exact hbt.1
            · rw [hkj.2 c (hch) (fun e => hcq _ (List.mem_of_getElem? hq2) e)]
              exact hrow
            · have h5 := hits j q (by omega) hq
              cases hqo : q.2 with
              | none => rw [hqo] at h5; exact h5
              | some c' =>
                rw [hqo] at h5
                obtain ⟨h6, h7, h8⟩ := h5
                refine ⟨h6, by omega, ?_⟩
                rw [hkj.2 c' h7 (fun e => ?_)]
                · exact h8
                · rcases pair_get hA.inj (show k2 < j by omega) hq2 hq with h9 | h9
                  · have h10 : o2 = none := h9
                    rw [h10] at e; cases e
                  · exact h9 (e.trans hqo.symm)
          cases o2 with
          | none =>
            obtain ⟨n1, n2, n3, n4⟩ := hnext hh (.refl _ _)
            ((conv => whnf); repeat ((first | refine SIf.dt (by omega) ?_ | refine SChk.ix (by omega) (by omega) ?_ | refine SChk.mk (decide_eq_true (by omega)) ?_ | refine SCall.app (hsame _) ?_ | refine SLoopV.un rfl ?_ | refine SWrap.w64 (by omega) (by omega) ?_ | refine SEx.of (hrow) ?_ | refine SEx.of (hgq) ?_ | refine SEx.of (map_get' (by omega) hm2) ?_ | refine yf rfl ?_ | refine yt rfl ?_ | refine yo rfl ?_ | refine yc rfl ?_ | refine ys rfl ?_ | refine ye rfl ?_ | refine yn rfl ?_ | refine zw ?_ | refine zdt ?_ | refine zdf ?_ | refine znt ?_ | refine znf ?_ | refine zcd ?_ | refine zci ?_ | refine zc3 ?_) <;> (conv => whnf)))
            exact hR2 (L2.length - (k2 + 1)) _ _ (by omega) ⟨k2 + 1, hh, lc, by omega, rfl, n1, n2, n3, n4, hlc1, hlc2, (by repeat (first | exact Fr.le_nil | refine Fr.le_cons rfl ?_)), rfl⟩
          | some c2 =>
            obtain ⟨hb1, hb2, hb3⟩ := hbt
            have hgq : (Q.map amR)[0 + ((k2 : Nat) : Int).toNat]? = some [.b m2.rep, .i .i64 m2.who, .ms (.g c2) 1 0 m2.b.length] := hgq
            have hsame : ∀ K : V → Heap → Prop, K (.b true) hh → ACall P 27 [.agg [.b m2.rep, .i .i64 m2.who, .ms (.g c2) 1 0 m2.b.length], .agg (mailR m2)] hh K := fun K => hsame K
            ((conv => whnf); repeat ((first | refine SIf.dt (by omega) ?_ | refine SChk.ix (by omega) (by omega) ?_ | refine SChk.mk (decide_eq_true (by omega)) ?_ | refine SCall.app (hsame _) ?_ | refine SEx.of (hrow) ?_ | refine SEx.of (hgq) ?_ | refine SEx.of (map_get' (by omega) hm2) ?_ | refine yf rfl ?_ | refine yt rfl ?_ | refine yo rfl ?_ | refine yc rfl ?_ | refine ys rfl ?_ | refine ye rfl ?_ | refine yn rfl ?_ | refine zw ?_ | refine zdt ?_ | refine zdf ?_ | refine znt ?_ | refine znf ?_ | refine zcd ?_ | refine zci ?_ | refine zc3 ?_) <;> (conv => whnf)))
            refine SLoopV.by (fun q fr st => ∃ (j : Nat) (hj : Heap) (b' : List Int), j ≤ m2.b.length ∧ q = m2.b.length - j ∧ b'.length = m2.b.length ∧ Heap.Keeps (fun n => some c2 = some n) hh hj ∧ hj.get c2 = some (.arr 1 (b'.map byR)) ∧
                Fr.le [(160, .i .i64 j), (159, .i .i64 m2.b.length), (14, .i .i64 k2), (141, .i .i64 k2), (140, .i .i64 Q.length), (13, .ms (.g c) 3 0 Q.length), (8, .i .i64 i), (7, .sl (some (.l (lo.next + 1 + 1))) 3 (L2.map mailR)), (6, .p (.g 0) 0), (1, .sl none 6 (ops.map nopR)), (0, .i .i64 M)] fr ∧ st = ⟨hj, lc⟩)
              m2.b.length ⟨0, hh, m2.b, Nat.zero_le _, rfl, rfl, .refl _ _, hb3, (by repeat (first | exact Fr.le_nil | refine Fr.le_cons rfl ?_)), rfl⟩ ?_
            rintro q3 fr3 st3 ⟨j, hj, b', hjl, rfl, hbl', hkj, hgj, hle3, rfl⟩
            refine ⟨_, hle3, fun R3 hR3 => ?_⟩
            obtain ⟨n1, n2, n3, n4⟩ := hnext hj hkj
            have hm2l : m2.b.length ≤ 30 := hroom2 m2 (List.mem_of_getElem? hm2)
            have hbm : (b'.map byR).length = m2.b.length := by simpa using hbl'
            by_cases hjL : j < m2.b.length
            · have hx := List.getElem?_eq_getElem (show j < b'.length by omega)
              generalize b'[j] = x at hx
              have hgx : (b'.map byR)[0 + ((j : Nat) : Int).toNat]? = some [.i .u8 x] := by rw [Nat.zero_add, Int.toNat_natCast, List.getElem?_map, hx]; rfl
              ((conv => whnf); repeat ((first | refine SIf.dt (by omega) ?_ | refine SChk.ix (by omega) (by omega) ?_ | refine SChk.mk (decide_eq_true (by omega)) ?_ | refine SChk.mk (decide_eq_true (by omega)) ?_ | refine SEx.of (n3) ?_ | refine SEx.of (hgq) ?_ | refine SEx.of (hgj) ?_ | refine SEx.of (hgx) ?_ | refine yf rfl ?_ | refine yt rfl ?_ | refine yo rfl ?_ | refine yc rfl ?_ | refine ys rfl ?_ | refine ye rfl ?_ | refine yn rfl ?_ | refine zw ?_ | refine zdt ?_ | refine zdf ?_ | refine znt ?_ | refine znf ?_ | refine zcd ?_ | refine zci ?_ | refine zc3 ?_) <;> (conv => whnf)))
              refine SWrap.mk ?_
              generalize IntKind.u8.wrap (x + 1) = y
              have hset : ((b'.map byR).set (0 + ((j : Nat) : Int).toNat) [.i .u8 y]) = (b'.set j y).map byR := by rw [Nat.zero_add, Int.toNat_natCast, List.map_set]; rfl
              ((conv => whnf); repeat ((first | refine SIf.dt (by omega) ?_ | refine SChk.ix (by omega) (by omega) ?_ | refine SChk.mk (decide_eq_true (by omega)) ?_ | refine SWrap.w64 (by omega) (by omega) ?_ | refine SEx.of (n3) ?_ | refine SEx.of (hgq) ?_ | refine SEx.of (hgj) ?_ | refine SEx.of (hgx) ?_ | refine yf rfl ?_ | refine yt rfl ?_ | refine yo rfl ?_ | refine yc rfl ?_ | refine ys rfl ?_ | refine ye rfl ?_ | refine yn rfl ?_ | refine zw ?_ | refine zdt ?_ | refine zdf ?_ | refine znt ?_ | refine znf ?_ | refine zcd ?_ | refine zci ?_ | refine zc3 ?_) <;> (conv => whnf)))
              have hkj2 : Heap.Keeps (fun n => some c2 = some n) hh (hj.set c2 (.arr 1 ((b'.set j y).map byR))) := Heap.Keeps.set hkj (.inl rfl) _
              have hst : hj.set c2 (.arr 1 ((b'.map byR).set (0 + ((j : Nat) : Int).toNat) [.i .u8 y])) = hj.set c2 (.arr 1 ((b'.set j y).map byR)) := by rw [hset]
              refine hR3 (m2.b.length - (j + 1)) _ _ (by omega) ⟨j + 1, hj.set c2 (.arr 1 ((b'.set j y).map byR)), b'.set j y, by omega, rfl, by simpa using hbl', hkj2, Heap.get_set_self hgj, (by repeat (first | exact Fr.le_nil | refine Fr.le_cons rfl ?_)), ?_⟩
              exact congrArg (fun x => (⟨x, lc⟩ : St)) hst
            · ((conv => whnf); repeat ((first | refine SIf.df (by omega) ?_ | refine SWrap.w64 (by omega) (by omega) ?_ | refine yf rfl ?_ | refine yt rfl ?_ | refine yo rfl ?_ | refine yc rfl ?_ | refine ys rfl ?_ | refine ye rfl ?_ | refine yn rfl ?_ | refine zw ?_ | refine zdt ?_ | refine zdf ?_ | refine znt ?_ | refine znf ?_ | refine zcd ?_ | refine zci ?_ | refine zc3 ?_) <;> (conv => whnf)))
              exact hR2 (L2.length - (k2 + 1)) _ _ (by omega) ⟨k2 + 1, hj, lc, by omega, rfl, n1, n2, n3, n4, hlc1, hlc2, (by repeat (first | exact Fr.le_nil | refine Fr.le_cons rfl ?_)), rfl⟩
        · ((conv => whnf); repeat ((first | refine SIf.df (by omega) ?_ | refine SWrap.w64 (by omega) (by omega) ?_ | refine yf rfl ?_ | refine yt rfl ?_ | refine yo rfl ?_ | refine yc rfl ?_ | refine ys rfl ?_ | refine ye rfl ?_ | refine yn rfl ?_ | refine zw ?_ | refine zdt ?_ | refine zdf ?_ | refine znt ?_ | refine znf ?_ | refine zcd ?_ | refine zci ?_ | refine zc3 ?_) <;> (conv => whnf)))
          exact hR (60 - (i + 1)) _ _ (by omega) ⟨i + 1, L2, hh, lc, _, rfl, by omega, hL2, hroom2, hat2.keep hkk, .inr ⟨_, rfl, hlc1, hlc2⟩, (by repeat (first | exact Fr.le_nil | refine Fr.le_cons rfl ?_)), rfl⟩

      · have htk0 := fun (K : V → Heap → Prop) (hK : K (.tup [.agg mail0, .b false]) h) => take_at (K := K) hG hat (by simp) (fun m hm => by cases hm) e.i e.keep (fun _ => hK) (fun m k hmk hk => absurd hk (by simp))
        have hz := fun K => same_zero (K := K) hG (h := h)
        have h2 := h
        have hat2 := hat
        ((conv => whnf); repeat ((first | refine SOpt.of (mn2 (z := (Q : Int)) (by rw [hbl]; split <;> omega)) ?_ | refine SIf.df hkind ?_ | refine SCall.app (htk0 _) ?_ | refine SCall.app (hz _) ?_ | refine SEx.of (map_get' (by omega) he) ?_ | refine SEx.of (a1 _) ?_ | refine SEx.of (a2 _ _) ?_ | refine SEx.of (a3 _ _ _) ?_ | refine SEx.of (a4 _ _ _ _ _) ?_ | refine SEx.of (a5 _ _ _ _) ?_ | refine SEx.of (a6 _ _ _ _ _) ?_ | refine yf rfl ?_ | refine yt rfl ?_ | refine yo rfl ?_ | refine yc rfl ?_ | refine ys rfl ?_ | refine ye rfl ?_ | refine yn rfl ?_ | refine zw ?_ | refine zdt ?_ | refine zdf ?_ | refine znt ?_ | refine znf ?_ | refine zcd ?_ | refine zci ?_ | refine zc3 ?_) <;> (conv => whnf)))
        have hall := fun K => all_at (K := K) hG hcl hal hat2 (by simp) (fun m hm => by cases hm)
        ((conv => whnf); repeat ((first | refine SCall.app (hall _) ?_ | refine SEx.of (map_get' (by omega) he) ?_ | refine SEx.of (a1 _) ?_ | refine SEx.of (a2 _ _) ?_ | refine SEx.of (a3 _ _ _) ?_ | refine SEx.of (a4 _ _ _ _ _) ?_ | refine SEx.of (a5 _ _ _ _) ?_ | refine SEx.of (a6 _ _ _ _ _) ?_ | refine yf rfl ?_ | refine yt rfl ?_ | refine yo rfl ?_ | refine yc rfl ?_ | refine ys rfl ?_ | refine ye rfl ?_ | refine yn rfl ?_ | refine zw ?_ | refine zdt ?_ | refine zdf ?_ | refine znt ?_ | refine znf ?_ | refine zcd ?_ | refine zci ?_ | refine zc3 ?_) <;> (conv => whnf)))
        intro lv Q h3 hQ hA hk3
        have hQ0 : Q = [] := by cases Q with
          | nil => rfl
          | cons _ _ => simp at hQ
        subst hQ0
        have hat3 : NetAt h3 0 M [] := hat2.keep (hk3.mono fun _ _ x => x.elim)
        have hlen3 := fun K => len_at (K := K) hG hat3
        rcases hA.row with ⟨_, hlv⟩ | ⟨c, hlv, _⟩
        all_goals
          subst hlv
          ((conv => whnf); repeat ((first | refine SCall.app (hlen3 _) ?_ | refine SLoopV.un rfl ?_ | refine SWrap.w64 (by omega) (by omega) ?_ | refine SEx.of (map_get' (by omega) he) ?_ | refine SEx.of (a1 _) ?_ | refine SEx.of (a2 _ _) ?_ | refine SEx.of (a3 _ _ _) ?_ | refine SEx.of (a4 _ _ _ _ _) ?_ | refine SEx.of (a5 _ _ _ _) ?_ | refine SEx.of (a6 _ _ _ _ _) ?_ | refine yf rfl ?_ | refine yt rfl ?_ | refine yo rfl ?_ | refine yc rfl ?_ | refine ys rfl ?_ | refine ye rfl ?_ | refine yn rfl ?_ | refine zw ?_ | refine zdt ?_ | refine zdf ?_ | refine znt ?_ | refine znf ?_ | refine zcd ?_ | refine zci ?_ | refine zc3 ?_) <;> (conv => whnf)))
          exact hR (60 - (i + 1)) _ _ (by omega) ⟨i + 1, [], h3, _, _, rfl, by omega, by simp, (fun m h => by cases h), hat3, .inl ⟨rfl, rfl⟩, (by repeat (first | exact Fr.le_nil | refine Fr.le_cons rfl ?_)), rfl⟩
    · have a7 : ∀ o o2 o3, (((lo.push o).set lo.next o2).set lo.next o3).get t = some .spare := fun o o2 o3 => Heap.gs (by omega) (Heap.gs (by omega) (Heap.gp (by omega) ht2))
      have a8 : ∀ o o2 o3 p q, (((((lo.push o).set lo.next o2).set lo.next o3).push p).set (lo.next + 1) q).get t = some .spare := fun o o2 o3 p q => Heap.gs (by omega) (Heap.gp (by show t ≠ lo.next + 1; omega) (a7 _ _ _))
      have a9 : ∀ o o2 o3 p, ((((lo.push o).set lo.next o2).set lo.next o3).push p).get t = some .spare := fun o o2 o3 p => Heap.gp (by show t ≠ lo.next + 1; omega) (a7 _ _ _)
      by_cases hkind : e.kind = 0
      · by_cases hfull : L.length < M
        · ((conv => whnf); repeat ((first | refine SOpt.of (mn2 (z := (Q : Int)) (by rw [hbl]; split <;> omega)) ?_ | refine SIf.dt hkind ?_ | refine SEx.of (map_get' (by omega) he) ?_ | refine SEx.of (a1 _) ?_ | refine SEx.of (a2 _ _) ?_ | refine SEx.of (a3 _ _ _) ?_ | refine SEx.of (a4 _ _ _ _ _) ?_ | refine SEx.of (a5 _ _ _ _) ?_ | refine SEx.of (a6 _ _ _ _ _) ?_ | refine SEx.of (ht2) ?_ | refine SEx.of (a7 _ _ _) ?_ | refine SEx.of (a8 _ _ _ _ _) ?_ | refine SEx.of (a9 _ _ _ _) ?_ | refine yf rfl ?_ | refine yt rfl ?_ | refine yo rfl ?_ | refine yc rfl ?_ | refine ys rfl ?_ | refine ye rfl ?_ | refine yn rfl ?_ | refine zw ?_ | refine zdt ?_ | refine zdf ?_ | refine znt ?_ | refine znf ?_ | refine zcd ?_ | refine zci ?_ | refine zc3 ?_) <;> (conv => whnf)))
          rw [hN]
          ((conv => whnf); repeat ((first | refine SCall.app (hsend hfull _) ?_ | refine yf rfl ?_ | refine yt rfl ?_ | refine yo rfl ?_ | refine yc rfl ?_ | refine ys rfl ?_ | refine ye rfl ?_ | refine yn rfl ?_ | refine zw ?_ | refine zdt ?_ | refine zdf ?_ | refine znt ?_ | refine znf ?_ | refine zcd ?_ | refine zci ?_ | refine zc3 ?_) <;> (conv => whnf)))
          intro h2 hat2
          ((conv => whnf); repeat ((first | refine SIf.dt (show (((L.map mailR).length : Nat) : Int) < M by omega) ?_ | refine SIf.ff (by simp; omega) ?_ | refine SChk.mk (by simp [roomOk]; omega) ?_ | refine SEx.of (x := [mailR ⟨e.m.who, T, e.m.rep⟩]) rfl ?_ | refine SEx.of (map_get' (by omega) he) ?_ | refine SEx.of (a1 _) ?_ | refine SEx.of (a2 _ _) ?_ | refine SEx.of (a3 _ _ _) ?_ | refine SEx.of (a4 _ _ _ _ _) ?_ | refine SEx.of (a5 _ _ _ _) ?_ | refine SEx.of (a6 _ _ _ _ _) ?_ | refine SEx.of (ht2) ?_ | refine SEx.of (a7 _ _ _) ?_ | refine SEx.of (a8 _ _ _ _ _) ?_ | refine SEx.of (a9 _ _ _ _) ?_ | refine yf rfl ?_ | refine yt rfl ?_ | refine yo rfl ?_ | refine yc rfl ?_ | refine ys rfl ?_ | refine ye rfl ?_ | refine yn rfl ?_ | refine zw ?_ | refine zdt ?_ | refine zdf ?_ | refine znt ?_ | refine znf ?_ | refine zcd ?_ | refine zci ?_ | refine zc3 ?_) <;> (conv => whnf)))
          obtain ⟨L2, hL2e⟩ : ∃ L2 : List MailD, L2 = L ++ [⟨e.m.who, T, e.m.rep⟩] := ⟨_, rfl⟩
          have hLe : L.map mailR ++ [mailR ⟨e.m.who, T, e.m.rep⟩] = L2.map mailR := by rw [hL2e, List.map_append]; rfl
          have hat2 : NetAt h2 0 M L2 := by rw [hL2e]; exact hat2
          have hroom2 : ∀ m ∈ L2, m.b.length ≤ 30 := by rw [hL2e]; exact hroomT
          have hL2 : L2.length ≤ i + 1 := by rw [hL2e]; simp; exact hLi
          have hne2 : L2 ≠ [] := by rw [hL2e]; simp
          rw [hLe]
          have hlm2 : (L2.map mailR).length = L2.length := List.length_map _
          have hpos2 : 0 < L2.length := List.length_pos_iff.2 hne2
          have hall := fun K => all_at (K := K) hG hcl hal hat2 (by omega) (fun m hm => by have := hroom2 m hm; omega)
          ((conv => whnf); repeat ((first | refine SCall.app (hall _) ?_ | refine SEx.of (map_get' (by omega) he) ?_ | refine SEx.of (a1 _) ?_ | refine SEx.of (a2 _ _) ?_ | refine SEx.of (a3 _ _ _) ?_ | refine SEx.of (a4 _ _ _ _ _) ?_ | refine SEx.of (a5 _ _ _ _) ?_ | refine SEx.of (a6 _ _ _ _ _) ?_ | refine SEx.of (ht2) ?_ | refine SEx.of (a7 _ _ _) ?_ | refine SEx.of (a8 _ _ _ _ _) ?_ | refine SEx.of (a9 _ _ _ _) ?_ | refine yf rfl ?_ | refine yt rfl ?_ | refine yo rfl ?_ | refine yc rfl ?_ | refine ys rfl ?_ | refine ye rfl ?_ | refine yn rfl ?_ | refine zw ?_ | refine zdt ?_ | refine zdf ?_ | refine znt ?_ | refine znf ?_ | refine zcd ?_ | refine zci ?_ | refine zc3 ?_) <;> (conv => whnf)))
          intro lv Q h3 hQ hA hk3
          have hQl : Q.length = L2.length := by simpa using congrArg List.length hQ
          have hQm : (Q.map amR).length = L2.length := by simpa using hQl
          have hat3 : NetAt h3 0 M L2 := hat2.keep (hk3.mono fun _ _ x => x.elim)
          have hlen3 := fun K => len_at (K := K) hG hat3
          rcases hA.row with ⟨hQ0, _⟩ | ⟨c, hlv, hc1, hc2, hcq, hc3⟩
          · subst hQ0
            exact absurd hQl.symm (by simp; exact hne2)
          subst hlv
          ((conv => whnf); repeat ((first | refine SCall.app (hlen3 _) ?_ | refine SIf.nf (by omega) ?_ | refine SIf.ff (by simp; omega) ?_ | refine SEx.of (map_get' (by omega) he) ?_ | refine SEx.of (a1 _) ?_ | refine SEx.of (a2 _ _) ?_ | refine SEx.of (a3 _ _ _) ?_ | refine SEx.of (a4 _ _ _ _ _) ?_ | refine SEx.of (a5 _ _ _ _) ?_ | refine SEx.of (a6 _ _ _ _ _) ?_ | refine SEx.of (ht2) ?_ | refine SEx.of (a7 _ _ _) ?_ | refine SEx.of (a8 _ _ _ _ _) ?_ | refine SEx.of (a9 _ _ _ _) ?_ | refine yf rfl ?_ | refine yt rfl ?_ | refine yo rfl ?_ | refine yc rfl ?_ | refine ys rfl ?_ | refine ye rfl ?_ | refine yn rfl ?_ | refine zw ?_ | refine zdt ?_ | refine zdf ?_ | refine znt ?_ | refine znf ?_ | refine zcd ?_ | refine zci ?_ | refine zc3 ?_) <;> (conv => whnf)))
          refine SLoopV.by (fun q fr st => ∃ (k : Nat) (hh lc : Heap), k ≤ L2.length ∧ q = L2.length - k ∧ Heap.Keeps (fun n => h2.next ≤ n) h2 hh ∧ c < hh.next ∧ hh.get c = some (.arr 3 (Q.map amR)) ∧ (∀ j q, k ≤ j → Q[j]? = some q → BAt hh h2.next q.1.b q.2) ∧ lo.next + 1 + 1 < lc.next ∧ lc.get (lo.next + 1 + 1) = some .spare ∧
              Fr.le [(141, .i .i64 k), (140, .i .i64 Q.length), (13, .ms (.g c) 3 0 Q.length), (8, .i .i64 i), (7, .sl (some (.l (lo.next + 1 + 1))) 3 (L2.map mailR)), (6, .p (.g 0) 0), (1, .sl none 6 (ops.map nopR)), (0, .i .i64 M)] fr ∧ st = ⟨hh, lc⟩)
            L2.length ⟨0, h3, _, Nat.zero_le _, rfl, hk3.mono (fun _ _ x => x.elim), hc2, hc3, (fun j q _ hq => hA.its q (List.mem_of_getElem? hq)), Nat.lt_succ_self _, (by repeat (first | exact (Heap.get_push_self _ _) | exact Heap.get_push_self _ _ | refine Heap.gs (by first | omega | (show _ ≠ lo.next + 1; omega) | (show _ ≠ lo.next + 1 + 1; omega) | (show _ ≠ lo.next + 1 + 1 + 1; omega)) ?_ | refine Heap.gp (by first | omega | (show _ ≠ lo.next + 1; omega) | (show _ ≠ lo.next + 1 + 1; omega) | (show _ ≠ lo.next + 1 + 1 + 1; omega)) ?_ | refine Heap.gr (by first | omega | (show _ ≠ lo.next + 1; omega) | (show _ ≠ lo.next + 1 + 1; omega) | (show _ ≠ lo.next + 1 + 1 + 1; omega)) ?_)), (by repeat (first | exact Fr.le_nil | refine Fr.le_cons rfl ?_)), rfl⟩ ?_
          rintro q2 fr2 st2 ⟨k2, hh, lc, hkl, rfl, hkk, hch, hrow, hits, hlc1, hlc2, hle2, rfl⟩
          refine ⟨_, hle2, fun R2 hR2 => ?_⟩
          by_cases hkL : k2 < L2.length
          · have hm2 := List.getElem?_eq_getElem hkL
            generalize L2[k2] = m2 at hm2
            obtain ⟨o2, hq2⟩ : ∃ o2, Q[k2]? = some (m2, o2) := by
              have h5 : (Q.map Prod.fst)[k2]? = some m2 := by rw [hQ]; exact hm2
              rw [List.getElem?_map] at h5
              obtain ⟨⟨a, b⟩, h6, h7⟩ := Option.map_eq_some_iff.1 h5
              dsimp only at h7
              subst h7
              exact ⟨b, h6⟩
            have hbt := hits k2 _ (Nat.le_refl _) hq2
            have hsame := fun K => same_at (K := K) hG (BVal.of hbt)
            have hgq : (Q.map amR)[0 + ((k2 : Nat) : Int).toNat]? = some (amR (m2, o2)) := by rw [Nat.zero_add, Int.toNat_natCast, List.getElem?_map, hq2]; rfl
            have hnext : ∀ hj : Heap, Heap.Keeps (fun n => o2 = some n) hh hj → Heap.Keeps (fun n => h2.next ≤ n) h2 hj ∧ c < hj.next ∧ hj.get c = some (.arr 3 (Q.map amR)) ∧ ∀ j q, k2 + 1 ≤ j → Q[j]? = some q → BAt hj h2.next q.1.b q.2 := by
              intro hj hkj
              have hn := hkj.1
              refine ⟨hkk.trans (hkj.mono fun n _ e => ?_), by omega, ?_, fun j q hjk hq => ?_⟩
              · rw [e] at hbt; exact hbt.1
              · rw [hkj.2 c (hch) (fun e => hcq _ (List.mem_of_getElem? hq2) e)]
                exact hrow
              · have h5 := hits j q (by omega) hq
                cases hqo : q.2 with
                | none => rw [hqo] at h5; exact h5
                | some c' =>
                  rw [hqo] at h5
                  obtain ⟨h6, h7, h8⟩ := h5
                  refine ⟨h6, by omega, ?_⟩
                  rw [hkj.2 c' h7 (fun e => ?_)]
                  · exact h8
                  · rcases pair_get hA.inj (show k2 < j by omega) hq2 hq with h9 | h9
                    · have h10 : o2 = none := h9
                      rw [h10] at e; cases e
                    · exact h9 (e.trans hqo.symm)
            cases o2 with
            | none =>
              obtain ⟨n1, n2, n3, n4⟩ := hnext hh (.refl _ _)
              ((conv => whnf); repeat ((first | refine SIf.dt (by omega) ?_ | refine SChk.ix (by omega) (by omega) ?_ | refine SChk.mk (decide_eq_true (by omega)) ?_ | refine SCall.app (hsame _) ?_ | refine SLoopV.un rfl ?_ | refine SWrap.w64 (by omega) (by omega) ?_ | refine SEx.of (hrow) ?_ | refine SEx.of (hgq) ?_ | refine SEx.of (map_get' (by omega) hm2) ?_ | refine yf rfl ?_ | refine yt rfl ?_ | refine yo rfl ?_ | refine yc rfl ?_ | refine ys rfl ?_ | refine ye rfl ?_ | refine yn rfl ?_ | refine zw ?_ | refine zdt ?_ | refine zdf ?_ | refine znt ?_ | refine znf ?_ | refine zcd ?_ | refine zci ?_ | refine zc3 ?_) <;> (conv => whnf)))
              exact hR2 (L2.length - (k2 + 1)) _ _ (by omega) ⟨k2 + 1, hh, lc, by omega, rfl, n1, n2, n3, n4, hlc1, hlc2, (by repeat (first | exact Fr.le_nil | refine Fr.le_cons rfl ?_)), rfl⟩
            | some c2 =>
              obtain ⟨hb1, hb2, hb3⟩ := hbt
              have hgq : (Q.map amR)[0 + ((k2 : Nat) : Int).toNat]? = some [.b m2.rep, .i .i64 m2.who, .ms (.g c2) 1 0 m2.b.length] := hgq
              have hsame : ∀ K : V → Heap → Prop, K (.b true) hh → ACall P 27 [.agg [.b m2.rep, .i .i64 m2.who, .ms (.g c2) 1 0 m2.b.length], .agg (mailR m2)] hh K := fun K => hsame K
              ((conv => whnf); repeat ((first | refine SIf.dt (by omega) ?_ | refine SChk.ix (by omega) (by omega) ?_ | refine SChk.mk (decide_eq_true (by omega)) ?_ | refine SCall.app (hsame _) ?_ | refine SEx.of (hrow) ?_ | refine SEx.of (hgq) ?_ | refine SEx.of (map_get' (by omega) hm2) ?_ | refine yf rfl ?_ | refine yt rfl ?_ | refine yo rfl ?_ | refine yc rfl ?_ | refine ys rfl ?_ | refine ye rfl ?_ | refine yn rfl ?_ | refine zw ?_ | refine zdt ?_ | refine zdf ?_ | refine znt ?_ | refine znf ?_ | refine zcd ?_ | refine zci ?_ | refine zc3 ?_) <;> (conv => whnf)))
              refine SLoopV.by (fun q fr st => ∃ (j : Nat) (hj : Heap) (b' : List Int), j ≤ m2.b.length ∧ q = m2.b.length - j ∧ b'.length = m2.b.length ∧ Heap.Keeps (fun n => some c2 = some n) hh hj ∧ hj.get c2 = some (.arr 1 (b'.map byR)) ∧
                  Fr.le [(160, .i .i64 j), (159, .i .i64 m2.b.length), (14, .i .i64 k2), (141, .i .i64 k2), (140, .i .i64 Q.length), (13, .ms (.g c) 3 0 Q.length), (8, .i .i64 i), (7, .sl (some (.l (lo.next + 1 + 1))) 3 (L2.map mailR)), (6, .p (.g 0) 0), (1, .sl none 6 (ops.map nopR)), (0, .i .i64 M)] fr ∧ st = ⟨hj, lc⟩)
                m2.b.length ⟨0, hh, m2.b, Nat.zero_le _, rfl, rfl, .refl _ _, hb3, (by repeat (first | exact Fr.le_nil | refine Fr.le_cons rfl ?_)), rfl⟩ ?_
              rintro q3 fr3 st3 ⟨j, hj, b', hjl, rfl, hbl', hkj, hgj, hle3, rfl⟩
              refine ⟨_, hle3, fun R3 hR3 => ?_⟩
              obtain ⟨n1, n2, n3, n4⟩ := hnext hj hkj
              have hm2l : m2.b.length ≤ 30 := hroom2 m2 (List.mem_of_getElem? hm2)
              have hbm : (b'.map byR).length = m2.b.length := by simpa using hbl'
              by_cases hjL : j < m2.b.length
              · have hx := List.getElem?_eq_getElem (show j < b'.length by omega)
                generalize b'[j] = x at hx
                have hgx : (b'.map byR)[0 + ((j : Nat) : Int).toNat]? = some [.i .u8 x] := by rw [Nat.zero_add, Int.toNat_natCast, List.getElem?_map, hx]; rfl
                ((conv => whnf); repeat ((first | refine SIf.dt (by omega) ?_ | refine SChk.ix (by omega) (by omega) ?_ | refine SChk.mk (decide_eq_true (by omega)) ?_ | refine SChk.mk (decide_eq_true (by omega)) ?_ | refine SEx.of (n3) ?_ | refine SEx.of (hgq) ?_ | refine SEx.of (hgj) ?_ | refine SEx.of (hgx) ?_ | refine yf rfl ?_ | refine yt rfl ?_ | refine yo rfl ?_ | refine yc rfl ?_ | refine ys rfl ?_ | refine ye rfl ?_ | refine yn rfl ?_ | refine zw ?_ | refine zdt ?_ | refine zdf ?_ | refine znt ?_ | refine znf ?_ | refine zcd ?_ | refine zci ?_ | refine zc3 ?_) <;> (conv => whnf)))
                refine SWrap.mk ?_
                generalize IntKind.u8.wrap (x + 1) = y
                have hset : ((b'.map byR).set (0 + ((j : Nat) : Int).toNat) [.i .u8 y]) = (b'.set j y).map byR := by rw [Nat.zero_add, Int.toNat_natCast, List.map_set]; rfl
                ((conv => whnf); repeat ((first | refine SIf.dt (by omega) ?_ | refine SChk.ix (by omega) (by omega) ?_ | refine SChk.mk (decide_eq_true (by omega)) ?_ | refine SWrap.w64 (by omega) (by omega) ?_ | refine SEx.of (n3) ?_ | refine SEx.of (hgq) ?_ | refine SEx.of (hgj) ?_ | refine SEx.of (hgx) ?_ | refine yf rfl ?_ | refine yt rfl ?_ | refine yo rfl ?_ | refine yc rfl ?_ | refine ys rfl ?_ | refine ye rfl ?_ | refine yn rfl ?_ | refine zw ?_ | refine zdt ?_ | refine zdf ?_ | refine znt ?_ | refine znf ?_ | refine zcd ?_ | refine zci ?_ | refine zc3 ?_) <;> (conv => whnf)))
                have hkj2 : Heap.Keeps (fun n => some c2 = some n) hh (hj.set c2 (.arr 1 ((b'.set j y).map byR))) := Heap.Keeps.set hkj (.inl rfl) _
                have hst : hj.set c2 (.arr 1 ((b'.map byR).set (0 + ((j : Nat) : Int).toNat) [.i .u8 y])) = hj.set c2 (.arr 1 ((b'.set j y).map byR)) := by rw [hset]
                refine hR3 (m2.b.length - (j + 1)) _ _ (by omega) ⟨j + 1, hj.set c2 (.arr 1 ((b'.set j y).map byR)), b'.set j y, by omega, rfl, by simpa using hbl', hkj2, Heap.get_set_self hgj, (by repeat (first | exact Fr.le_nil | refine Fr.le_cons rfl ?_)), ?_⟩
                exact congrArg (fun x => (⟨x, lc⟩ : St)) hst
              · ((conv => whnf); repeat ((first | refine SIf.df (by omega) ?_ | refine SWrap.w64 (by omega) (by omega) ?_ | refine yf rfl ?_ | refine yt rfl ?_ | refine yo rfl ?_ | refine yc rfl ?_ | refine ys rfl ?_ | refine ye rfl ?_ | refine yn rfl ?_ | refine zw ?_ | refine zdt ?_ | refine zdf ?_ | refine znt ?_ | refine znf ?_ | refine zcd ?_ | refine zci ?_ | refine zc3 ?_) <;> (conv => whnf)))
                exact hR2 (L2.length - (k2 + 1)) _ _ (by omega) ⟨k2 + 1, hj, lc, by omega, rfl, n1, n2, n3, n4, hlc1, hlc2, (by repeat (first | exact Fr.le_nil | refine Fr.le_cons rfl ?_)), rfl⟩
          · ((conv => whnf); repeat ((first | refine SIf.df (by omega) ?_ | refine SWrap.w64 (by omega) (by omega) ?_ | refine yf rfl ?_ | refine yt rfl ?_ | refine yo rfl ?_ | refine yc rfl ?_ | refine ys rfl ?_ | refine ye rfl ?_ | refine yn rfl ?_ | refine zw ?_ | refine zdt ?_ | refine zdf ?_ | refine znt ?_ | refine znf ?_ | refine zcd ?_ | refine zci ?_ | refine zc3 ?_) <;> (conv => whnf)))
            exact hR (60 - (i + 1)) _ _ (by omega) ⟨i + 1, L2, hh, lc, _, rfl, by omega, hL2, hroom2, hat2.keep hkk, .inr ⟨_, rfl, hlc1, hlc2⟩, (by repeat (first | exact Fr.le_nil | refine Fr.le_cons rfl ?_)), rfl⟩

        · ((conv => whnf); repeat ((first | refine SOpt.of (mn2 (z := (Q : Int)) (by rw [hbl]; split <;> omega)) ?_ | refine SIf.dt hkind ?_ | refine SEx.of (map_get' (by omega) he) ?_ | refine SEx.of (a1 _) ?_ | refine SEx.of (a2 _ _) ?_ | refine SEx.of (a3 _ _ _) ?_ | refine SEx.of (a4 _ _ _ _ _) ?_ | refine SEx.of (a5 _ _ _ _) ?_ | refine SEx.of (a6 _ _ _ _ _) ?_ | refine SEx.of (ht2) ?_ | refine SEx.of (a7 _ _ _) ?_ | refine SEx.of (a8 _ _ _ _ _) ?_ | refine SEx.of (a9 _ _ _ _) ?_ | refine yf rfl ?_ | refine yt rfl ?_ | refine yo rfl ?_ | refine yc rfl ?_ | refine ys rfl ?_ | refine ye rfl ?_ | refine yn rfl ?_ | refine zw ?_ | refine zdt ?_ | refine zdf ?_ | refine znt ?_ | refine znf ?_ | refine zcd ?_ | refine zci ?_ | refine zc3 ?_) <;> (conv => whnf)))
          rw [hN]
          ((conv => whnf); repeat ((first | refine SCall.app (hsend0 (by omega) _) ?_ | refine SIf.df (show ¬ (((L.map mailR).length : Nat) : Int) < M by omega) ?_ | refine SIf.ff (by simp; omega) ?_ | refine SEx.of (map_get' (by omega) he) ?_ | refine SEx.of (a1 _) ?_ | refine SEx.of (a2 _ _) ?_ | refine SEx.of (a3 _ _ _) ?_ | refine SEx.of (a4 _ _ _ _ _) ?_ | refine SEx.of (a5 _ _ _ _) ?_ | refine SEx.of (a6 _ _ _ _ _) ?_ | refine SEx.of (ht2) ?_ | refine SEx.of (a7 _ _ _) ?_ | refine SEx.of (a8 _ _ _ _ _) ?_ | refine SEx.of (a9 _ _ _ _) ?_ | refine yf rfl ?_ | refine yt rfl ?_ | refine yo rfl ?_ | refine yc rfl ?_ | refine ys rfl ?_ | refine ye rfl ?_ | refine yn rfl ?_ | refine zw ?_ | refine zdt ?_ | refine zdf ?_ | refine znt ?_ | refine znf ?_ | refine zcd ?_ | refine zci ?_ | refine zc3 ?_) <;> (conv => whnf)))
          obtain ⟨L2, hL2e⟩ : ∃ L2 : List MailD, L2 = L := ⟨_, rfl⟩
          obtain ⟨h2, hh2⟩ : ∃ h2 : Heap, h2 = h := ⟨_, rfl⟩
          have hLe : L.map mailR = L2.map mailR := by rw [hL2e]
          have hat2 : NetAt h2 0 M L2 := by rw [hL2e, hh2]; exact hat
          have hroom2 : ∀ m ∈ L2, m.b.length ≤ 30 := by rw [hL2e]; exact hroom
          have hL2 : L2.length ≤ i + 1 := by rw [hL2e]; omega
          have hne2 : L2 ≠ [] := by rw [hL2e]; rintro rfl; simp at hfull; omega
          rw [hLe, ← hh2]
          have hlm2 : (L2.map mailR).length = L2.length := List.length_map _
          have hpos2 : 0 < L2.length := List.length_pos_iff.2 hne2
          have hall := fun K => all_at (K := K) hG hcl hal hat2 (by omega) (fun m hm => by have := hroom2 m hm; omega)
          ((conv => whnf); repeat ((first | refine SCall.app (hall _) ?_ | refine SEx.of (map_get' (by omega) he) ?_ | refine SEx.of (a1 _) ?_ | refine SEx.of (a2 _ _) ?_ | refine SEx.of (a3 _ _ _) ?_ | refine SEx.of (a4 _ _ _ _ _) ?_ | refine SEx.of (a5 _ _ _ _) ?_ | refine SEx.of (a6 _ _ _ _ _) ?_ | refine SEx.of (ht2) ?_ | refine SEx.of (a7 _ _ _) ?_ | refine SEx.of (a8 _ _ _ _ _) ?_ | refine SEx.of (a9 _ _ _ _) ?_ | refine yf rfl ?_ | refine yt rfl ?_ | refine yo rfl ?_ | refine yc rfl ?_ | refine ys rfl ?_ | refine ye rfl ?_ | refine yn rfl ?_ | refine zw ?_ | refine zdt ?_ | refine zdf ?_ | refine znt ?_ | refine znf ?_ | refine zcd ?_ | refine zci ?_ | refine zc3 ?_) <;> (conv => whnf)))
          intro lv Q h3 hQ hA hk3
          have hQl : Q.length = L2.length := by simpa using congrArg List.length hQ
          have hQm : (Q.map amR).length = L2.length := by simpa using hQl
          have hat3 : NetAt h3 0 M L2 := hat2.keep (hk3.mono fun _ _ x => x.elim)
          have hlen3 := fun K => len_at (K := K) hG hat3
          rcases hA.row with ⟨hQ0, _⟩ | ⟨c, hlv, hc1, hc2, hcq, hc3⟩
          · subst hQ0
            exact absurd hQl.symm (by simp; exact hne2)
          subst hlv
          ((conv => whnf); repeat ((first | refine SCall.app (hlen3 _) ?_ | refine SIf.nf (by omega) ?_ | refine SIf.ff (by simp; omega) ?_ | refine SEx.of (map_get' (by omega) he) ?_ | refine SEx.of (a1 _) ?_ | refine SEx.of (a2 _ _) ?_ | refine SEx.of (a3 _ _ _) ?_ | refine SEx.of (a4 _ _ _ _ _) ?_ | refine SEx.of (a5 _ _ _ _) ?_ | refine SEx.of (a6 _ _ _ _ _) ?_ | refine SEx.of (ht2) ?_ | refine SEx.of (a7 _ _ _) ?_ | refine SEx.of (a8 _ _ _ _ _) ?_ | refine SEx.of (a9 _ _ _ _) ?_ | refine yf rfl ?_ | refine yt rfl ?_ | refine yo rfl ?_ | refine yc rfl ?_ | refine ys rfl ?_ | refine ye rfl ?_ | refine yn rfl ?_ | refine zw ?_ | refine zdt ?_ | refine zdf ?_ | refine znt ?_ | refine znf ?_ | refine zcd ?_ | refine zci ?_ | refine zc3 ?_) <;> (conv => whnf)))
          refine SLoopV.by (fun q fr st => ∃ (k : Nat) (hh lc : Heap), k ≤ L2.length ∧ q = L2.length - k ∧ Heap.Keeps (fun n => h2.next ≤ n) h2 hh ∧ c < hh.next ∧ hh.get c = some (.arr 3 (Q.map amR)) ∧ (∀ j q, k ≤ j → Q[j]? = some q → BAt hh h2.next q.1.b q.2) ∧ t < lc.next ∧ lc.get (t) = some .spare ∧
              Fr.le [(141, .i .i64 k), (140, .i .i64 Q.length), (13, .ms (.g c) 3 0 Q.length), (8, .i .i64 i), (7, .sl (some (.l (t))) 3 (L2.map mailR)), (6, .p (.g 0) 0), (1, .sl none 6 (ops.map nopR)), (0, .i .i64 M)] fr ∧ st = ⟨hh, lc⟩)
            L2.length ⟨0, h3, _, Nat.zero_le _, rfl, hk3.mono (fun _ _ x => x.elim), hc2, hc3, (fun j q _ hq => hA.its q (List.mem_of_getElem? hq)), (show t < lo.next + 1 from Nat.lt_succ_of_lt ht1), (by repeat (first | exact (a7 _ _ _) | exact Heap.get_push_self _ _ | refine Heap.gs (by first | omega | (show _ ≠ lo.next + 1; omega) | (show _ ≠ lo.next + 1 + 1; omega) | (show _ ≠ lo.next + 1 + 1 + 1; omega)) ?_ | refine Heap.gp (by first | omega | (show _ ≠ lo.next + 1; omega) | (show _ ≠ lo.next + 1 + 1; omega) | (show _ ≠ lo.next + 1 + 1 + 1; omega)) ?_ | refine Heap.gr (by first | omega | (show _ ≠ lo.next + 1; omega) | (show _ ≠ lo.next + 1 + 1; omega) | (show _ ≠ lo.next + 1 + 1 + 1; omega)) ?_)), (by repeat (first | exact Fr.le_nil | refine Fr.le_cons rfl ?_)), rfl⟩ ?_
          rintro q2 fr2 st2 ⟨k2, hh, lc, hkl, rfl, hkk, hch, hrow, hits, hlc1, hlc2, hle2, rfl⟩
          refine ⟨_, hle2, fun R2 hR2 => ?_⟩
          by_cases hkL : k2 < L2.length
          · have hm2 := List.getElem?_eq_getElem hkL
            generalize L2[k2] = m2 at hm2
            obtain ⟨o2, hq2⟩ : ∃ o2, Q[k2]? = some (m2, o2) := by
              have h5 : (Q.map Prod.fst)[k2]? = some m2 := by rw [hQ]; exact hm2
              rw [List.getElem?_map] at h5
              obtain ⟨⟨a, b⟩, h6, h7⟩ := Option.map_eq_some_iff.1 h5
              dsimp only at h7
              subst h7
              exact ⟨b, h6⟩
            have hbt := hits k2 _ (Nat.le_refl _) hq2
            have hsame := fun K => same_at (K := K) hG (BVal.of hbt)
            have hgq : (Q.map amR)[0 + ((k2 : Nat) : Int).toNat]? = some (amR (m2, o2)) := by rw [Nat.zero_add, Int.toNat_natCast, List.getElem?_map, hq2]; rfl
            have hnext : ∀ hj : Heap, Heap.Keeps (fun n => o2 = some n) hh hj → Heap.Keeps (fun n => h2.next ≤ n) h2 hj ∧ c < hj.next ∧ hj.get c = some (.arr 3 (Q.map amR)) ∧ ∀ j q, k2 + 1 ≤ j → Q[j]? = some q → BAt hj h2.next q.1.b q.2 := by
              intro hj hkj
              have hn := hkj.1
              refine ⟨hkk.trans (hkj.mono fun n _ e => ?_), by omega, ?_, fun j q hjk hq => ?_⟩
              · rw [e] at hbt; exact hbt.1
              · rw [hkj.2 c (hch) (fun e => hcq _ (List.mem_of_getElem? hq2) e)]
                exact hrow
              · have h5 := hits j q (by omega) hq
                cases hqo : q.2 with
                | none => rw [hqo] at h5; exact h5
                | some c' =>
                  rw [hqo] at h5
                  obtain ⟨h6, h7, h8⟩ := h5
                  refine ⟨h6, by omega, ?_⟩
                  rw [hkj.2 c' h7 (fun e => ?_)]
                  · exact h8
                  · rcases pair_get hA.inj (show k2 < j by omega) hq2 hq with h9 | h9
                    · have h10 : o2 = none := h9
                      rw [h10] at e; cases e
                    · exact h9 (e.trans hqo.symm)
            cases o2 with
            | none =>
              obtain ⟨n1, n2, n3, n4⟩ := hnext hh (.refl _ _)
              ((conv => whnf); repeat ((first | refine SIf.dt (by omega) ?_ | refine SChk.ix (by omega) (by omega) ?_ | refine SChk.mk (decide_eq_true (by omega)) ?_ | refine SCall.app (hsame _) ?_ | refine SLoopV.un rfl ?_ | refine SWrap.w64 (by omega) (by omega) ?_ | refine SEx.of (hrow) ?_ | refine SEx.of (hgq) ?_ | refine SEx.of (map_get' (by omega) hm2) ?_ | refine yf rfl ?_ | refine yt rfl ?_ | refine yo rfl ?_ | refine yc rfl ?_ | refine ys rfl ?_ | refine ye rfl ?_ | refine yn rfl ?_ | refine zw ?_ | refine zdt ?_ | refine zdf ?_ | refine znt ?_ | refine znf ?_ | refine zcd ?_ | refine zci ?_ | refine zc3 ?_) <;> (conv => whnf)))
              exact hR2 (L2.length - (k2 + 1)) _ _ (by omega) ⟨k2 + 1, hh, lc, by omega, rfl, n1, n2, n3, n4, hlc1, hlc2, (by repeat (first | exact Fr.le_nil | refine Fr.le_cons rfl ?_)), rfl⟩
            | some c2 =>
              obtain ⟨hb1, hb2, hb3⟩ := hbt
              have hgq : (Q.map amR)[0 + ((k2 : Nat) : Int).toNat]? = some [.b m2.rep, .i .i64 m2.who, .ms (.g c2) 1 0 m2.b.length] := hgq
              have hsame : ∀ K : V → Heap → Prop, K (.b true) hh → ACall P 27 [.agg [.b m2.rep, .i .i64 m2.who, .ms (.g c2) 1 0 m2.b.length], .agg (mailR m2)] hh K := fun K => hsame K
              ((conv => whnf); repeat ((first | refine SIf.dt (by omega) ?_ | refine SChk.ix (by omega) (by omega) ?_ | refine SChk.mk (decide_eq_true (by omega)) ?_ | refine SCall.app (hsame _) ?_ | refine SEx.of (hrow) ?_ | refine SEx.of (hgq) ?_ | refine SEx.of (map_get' (by omega) hm2) ?_ | refine yf rfl ?_ | refine yt rfl ?_ | refine yo rfl ?_ | refine yc rfl ?_ | refine ys rfl ?_ | refine ye rfl ?_ | refine yn rfl ?_ | refine zw ?_ | refine zdt ?_ | refine zdf ?_ | refine znt ?_ | refine znf ?_ | refine zcd ?_ | refine zci ?_ | refine zc3 ?_) <;> (conv => whnf)))
              refine SLoopV.by (fun q fr st => ∃ (j : Nat) (hj : Heap) (b' : List Int), j ≤ m2.b.length ∧ q = m2.b.length - j ∧ b'.length = m2.b.length ∧ Heap.Keeps (fun n => some c2 = some n) hh hj ∧ hj.get c2 = some (.arr 1 (b'.map byR)) ∧
                  Fr.le [(160, .i .i64 j), (159, .i .i64 m2.b.length), (14, .i .i64 k2), (141, .i .i64 k2), (140, .i .i64 Q.length), (13, .ms (.g c) 3 0 Q.length), (8, .i .i64 i), (7, .sl (some (.l (t))) 3 (L2.map mailR)), (6, .p (.g 0) 0), (1, .sl none 6 (ops.map nopR)), (0, .i .i64 M)] fr ∧ st = ⟨hj, lc⟩)
                m2.b.length ⟨0, hh, m2.b, Nat.zero_le _, rfl, rfl, .refl _ _, hb3, (by repeat (first | exact Fr.le_nil | refine Fr.le_cons rfl ?_)), rfl⟩ ?_
              rintro q3 fr3 st3 ⟨j, hj, b', hjl, rfl, hbl', hkj, hgj, hle3, rfl⟩
              refine ⟨_, hle3, fun R3 hR3 => ?_⟩
              obtain ⟨n1, n2, n3, n4⟩ := hnext hj hkj
              have hm2l : m2.b.length ≤ 30 := hroom2 m2 (List.mem_of_getElem? hm2)
              have hbm : (b'.map byR).length = m2.b.length := by simpa using hbl'
              by_cases hjL : j < m2.b.length
              · have hx := List.getElem?_eq_getElem (show j < b'.length by omega)
                generalize b'[j] = x at hx
                have hgx : (b'.map byR)[0 + ((j : Nat) : Int).toNat]? = some [.i .u8 x] := by rw [Nat.zero_add, Int.toNat_natCast, List.getElem?_map, hx]; rfl
                ((conv => whnf); repeat ((first | refine SIf.dt (by omega) ?_ | refine SChk.ix (by omega) (by omega) ?_ | refine SChk.mk (decide_eq_true (by omega)) ?_ | refine SChk.mk (decide_eq_true (by omega)) ?_ | refine SEx.of (n3) ?_ | refine SEx.of (hgq) ?_ | refine SEx.of (hgj) ?_ | refine SEx.of (hgx) ?_ | refine yf rfl ?_ | refine yt rfl ?_ | refine yo rfl ?_ | refine yc rfl ?_ | refine ys rfl ?_ | refine ye rfl ?_ | refine yn rfl ?_ | refine zw ?_ | refine zdt ?_ | refine zdf ?_ | refine znt ?_ | refine znf ?_ | refine zcd ?_ | refine zci ?_ | refine zc3 ?_) <;> (conv => whnf)))
                refine SWrap.mk ?_
                generalize IntKind.u8.wrap (x + 1) = y
                have hset : ((b'.map byR).set (0 + ((j : Nat) : Int).toNat) [.i .u8 y]) = (b'.set j y).map byR := by rw [Nat.zero_add, Int.toNat_natCast, List.map_set]; rfl
                ((conv => whnf); repeat ((first | refine SIf.dt (by omega) ?_ | refine SChk.ix (by omega) (by omega) ?_ | refine SChk.mk (decide_eq_true (by omega)) ?_ | refine SWrap.w64 (by omega) (by omega) ?_ | refine SEx.of (n3) ?_ | refine SEx.of (hgq) ?_ | refine SEx.of (hgj) ?_ | refine SEx.of (hgx) ?_ | refine yf rfl ?_ | refine yt rfl ?_ | refine yo rfl ?_ | refine yc rfl ?_ | refine ys rfl ?_ | refine ye rfl ?_ | refine yn rfl ?_ | refine zw ?_ | refine zdt ?_ | refine zdf ?_ | refine znt ?_ | refine znf ?_ | refine zcd ?_ | refine zci ?_ | refine zc3 ?_) <;> (conv => whnf)))
                have hkj2 : Heap.Keeps (fun n => some c2 = some n) hh (hj.set c2 (.arr 1 ((b'.set j y).map byR))) := Heap.Keeps.set hkj (.inl rfl) _
                have hst : hj.set c2 (.arr 1 ((b'.map byR).set (0 + ((j : Nat) : Int).toNat) [.i .u8 y])) = hj.set c2 (.arr 1 ((b'.set j y).map byR)) := by rw [hset]
                refine hR3 (m2.b.length - (j + 1)) _ _ (by omega) ⟨j + 1, hj.set c2 (.arr 1 ((b'.set j y).map byR)), b'.set j y, by omega, rfl, by simpa using hbl', hkj2, Heap.get_set_self hgj, (by repeat (first | exact Fr.le_nil | refine Fr.le_cons rfl ?_)), ?_⟩
                exact congrArg (fun x => (⟨x, lc⟩ : St)) hst
              · ((conv => whnf); repeat ((first | refine SIf.df (by omega) ?_ | refine SWrap.w64 (by omega) (by omega) ?_ | refine yf rfl ?_ | refine yt rfl ?_ | refine yo rfl ?_ | refine yc rfl ?_ | refine ys rfl ?_ | refine ye rfl ?_ | refine yn rfl ?_ | refine zw ?_ | refine zdt ?_ | refine zdf ?_ | refine znt ?_ | refine znf ?_ | refine zcd ?_ | refine zci ?_ | refine zc3 ?_) <;> (conv => whnf)))
                exact hR2 (L2.length - (k2 + 1)) _ _ (by omega) ⟨k2 + 1, hj, lc, by omega, rfl, n1, n2, n3, n4, hlc1, hlc2, (by repeat (first | exact Fr.le_nil | refine Fr.le_cons rfl ?_)), rfl⟩
          · ((conv => whnf); repeat ((first | refine SIf.df (by omega) ?_ | refine SWrap.w64 (by omega) (by omega) ?_ | refine yf rfl ?_ | refine yt rfl ?_ | refine yo rfl ?_ | refine yc rfl ?_ | refine ys rfl ?_ | refine ye rfl ?_ | refine yn rfl ?_ | refine zw ?_ | refine zdt ?_ | refine zdf ?_ | refine znt ?_ | refine znf ?_ | refine zcd ?_ | refine zci ?_ | refine zc3 ?_) <;> (conv => whnf)))
            exact hR (60 - (i + 1)) _ _ (by omega) ⟨i + 1, L2, hh, lc, _, rfl, by omega, hL2, hroom2, hat2.keep hkk, .inr ⟨_, rfl, hlc1, hlc2⟩, (by repeat (first | exact Fr.le_nil | refine Fr.le_cons rfl ?_)), rfl⟩

      · by_cases hL0 : L = []
        · subst hL0
          have htk0 := fun (K : V → Heap → Prop) (hK : K (.tup [.agg mail0, .b false]) h) => take_at (K := K) hG hat (by simp) (fun m hm => by cases hm) e.i e.keep (fun _ => hK) (fun m k hmk hk => absurd hk (by simp))
          have hz := fun K => same_zero (K := K) hG (h := h)
          have h2 := h
          have hat2 := hat
          ((conv => whnf); repeat ((first | refine SOpt.of (mn2 (z := (Q : Int)) (by rw [hbl]; split <;> omega)) ?_ | refine SIf.df hkind ?_ | refine SCall.app (htk0 _) ?_ | refine SCall.app (hz _) ?_ | refine SEx.of (map_get' (by omega) he) ?_ | refine SEx.of (a1 _) ?_ | refine SEx.of (a2 _ _) ?_ | refine SEx.of (a3 _ _ _) ?_ | refine SEx.of (a4 _ _ _ _ _) ?_ | refine SEx.of (a5 _ _ _ _) ?_ | refine SEx.of (a6 _ _ _ _ _) ?_ | refine SEx.of (ht2) ?_ | refine SEx.of (a7 _ _ _) ?_ | refine SEx.of (a8 _ _ _ _ _) ?_ | refine SEx.of (a9 _ _ _ _) ?_ | refine yf rfl ?_ | refine yt rfl ?_ | refine yo rfl ?_ | refine yc rfl ?_ | refine ys rfl ?_ | refine ye rfl ?_ | refine yn rfl ?_ | refine zw ?_ | refine zdt ?_ | refine zdf ?_ | refine znt ?_ | refine znf ?_ | refine zcd ?_ | refine zci ?_ | refine zc3 ?_) <;> (conv => whnf)))
          have hall := fun K => all_at (K := K) hG hcl hal hat2 (by simp) (fun m hm => by cases hm)
          ((conv => whnf); repeat ((first | refine SCall.app (hall _) ?_ | refine SEx.of (map_get' (by omega) he) ?_ | refine SEx.of (a1 _) ?_ | refine SEx.of (a2 _ _) ?_ | refine SEx.of (a3 _ _ _) ?_ | refine SEx.of (a4 _ _ _ _ _) ?_ | refine SEx.of (a5 _ _ _ _) ?_ | refine SEx.of (a6 _ _ _ _ _) ?_ | refine SEx.of (ht2) ?_ | refine SEx.of (a7 _ _ _) ?_ | refine SEx.of (a8 _ _ _ _ _) ?_ | refine SEx.of (a9 _ _ _ _) ?_ | refine yf rfl ?_ | refine yt rfl ?_ | refine yo rfl ?_ | refine yc rfl ?_ | refine ys rfl ?_ | refine ye rfl ?_ | refine yn rfl ?_ | refine zw ?_ | refine zdt ?_ | refine zdf ?_ | refine znt ?_ | refine znf ?_ | refine zcd ?_ | refine zci ?_ | refine zc3 ?_) <;> (conv => whnf)))
          intro lv Q h3 hQ hA hk3
          have hQ0 : Q = [] := by cases Q with
            | nil => rfl
            | cons _ _ => simp at hQ
          subst hQ0
          have hat3 : NetAt h3 0 M [] := hat2.keep (hk3.mono fun _ _ x => x.elim)
          have hlen3 := fun K => len_at (K := K) hG hat3
          rcases hA.row with ⟨_, hlv⟩ | ⟨c, hlv, _⟩
          all_goals
            subst hlv
            ((conv => whnf); repeat ((first | refine SCall.app (hlen3 _) ?_ | refine SLoopV.un rfl ?_ | refine SWrap.w64 (by omega) (by omega) ?_ | refine SEx.of (map_get' (by omega) he) ?_ | refine SEx.of (a1 _) ?_ | refine SEx.of (a2 _ _) ?_ | refine SEx.of (a3 _ _ _) ?_ | refine SEx.of (a4 _ _ _ _ _) ?_ | refine SEx.of (a5 _ _ _ _) ?_ | refine SEx.of (a6 _ _ _ _ _) ?_ | refine SEx.of (ht2) ?_ | refine SEx.of (a7 _ _ _) ?_ | refine SEx.of (a8 _ _ _ _ _) ?_ | refine SEx.of (a9 _ _ _ _) ?_ | refine yf rfl ?_ | refine yt rfl ?_ | refine yo rfl ?_ | refine yc rfl ?_ | refine ys rfl ?_ | refine ye rfl ?_ | refine yn rfl ?_ | refine zw ?_ | refine zdt ?_ | refine zdf ?_ | refine znt ?_ | refine znf ?_ | refine zcd ?_ | refine zci ?_ | refine zc3 ?_) <;> (conv => whnf)))
            exact hR (60 - (i + 1)) _ _ (by omega) ⟨i + 1, [], h3, _, _, rfl, by omega, by simp, (fun m h => by cases h), hat3, .inr ⟨t, rfl, (show t < lo.next + 1 + 1 by omega), a8 _ _ _ _ _⟩, (by repeat (first | exact Fr.le_nil | refine Fr.le_cons rfl ?_)), rfl⟩

        · have hpos : 0 < L.length := List.length_pos_iff.2 hL0
          have htk := fun (K : V → Heap → Prop) (hK : ∀ m k, L[k]? = some m → k < L.length → (e.i.tmod L.length + L.length).tmod L.length = (k : Int) → ∀ h', NetAt h' 0 M (if e.keep = true then L else delD L k) → K (.tup [.agg (mailR m), .b true]) h') => take_at (K := K) hG hat (by omega) (fun m hm => by have := hroom m hm; omega) e.i e.keep (fun hc => absurd hc hL0) hK
          ((conv => whnf); repeat ((first | refine SOpt.of (mn2 (z := (Q : Int)) (by rw [hbl]; split <;> omega)) ?_ | refine SIf.df hkind ?_ | refine SCall.app (htk _) ?_ | refine SEx.of (map_get' (by omega) he) ?_ | refine SEx.of (a1 _) ?_ | refine SEx.of (a2 _ _) ?_ | refine SEx.of (a3 _ _ _) ?_ | refine SEx.of (a4 _ _ _ _ _) ?_ | refine SEx.of (a5 _ _ _ _) ?_ | refine SEx.of (a6 _ _ _ _ _) ?_ | refine SEx.of (ht2) ?_ | refine SEx.of (a7 _ _ _) ?_ | refine SEx.of (a8 _ _ _ _ _) ?_ | refine SEx.of (a9 _ _ _ _) ?_ | refine yf rfl ?_ | refine yt rfl ?_ | refine yo rfl ?_ | refine yc rfl ?_ | refine ys rfl ?_ | refine ye rfl ?_ | refine yn rfl ?_ | refine zw ?_ | refine zdt ?_ | refine zdf ?_ | refine znt ?_ | refine znf ?_ | refine zcd ?_ | refine zci ?_ | refine zc3 ?_) <;> (conv => whnf)))
          intro m k hmk hkL hke h2 hat2
          have hsm := fun K => same_at (K := K) hG (h := h2) (m := m) (.inl rfl)
          obtain ⟨_, _, _, hb1, hb2⟩ := rem_at (x := e.i) hpos (by omega)
          have hz : (!decide ((((L.map mailR).length : Nat) : Int) = 0)) = true := by rw [hlml, decide_eq_false (by omega)]; rfl
          ((conv => whnf); repeat ((first | refine SIf.ff (show (!(true == decide ((((L.map mailR).length : Nat) : Int) > 0) && true)) = false by rw [hlml, decide_eq_true (by omega)]; rfl) ?_ | refine SChk.mk hz ?_ | refine SWrap.w64 (by rw [hlml]; exact hb1) (by rw [hlml]; exact hb2) ?_ | refine SEx.of (map_get' (by omega) he) ?_ | refine SEx.of (a1 _) ?_ | refine SEx.of (a2 _ _) ?_ | refine SEx.of (a3 _ _ _) ?_ | refine SEx.of (a4 _ _ _ _ _) ?_ | refine SEx.of (a5 _ _ _ _) ?_ | refine SEx.of (a6 _ _ _ _ _) ?_ | refine SEx.of (ht2) ?_ | refine SEx.of (a7 _ _ _) ?_ | refine SEx.of (a8 _ _ _ _ _) ?_ | refine SEx.of (a9 _ _ _ _) ?_ | refine yf rfl ?_ | refine yt rfl ?_ | refine yo rfl ?_ | refine yc rfl ?_ | refine ys rfl ?_ | refine ye rfl ?_ | refine yn rfl ?_ | refine zw ?_ | refine zdt ?_ | refine zdf ?_ | refine znt ?_ | refine znf ?_ | refine zcd ?_ | refine zci ?_ | refine zc3 ?_) <;> (conv => whnf)))
          have hke' : (e.i.tmod (((L.map mailR).length : Nat) : Int) + (((L.map mailR).length : Nat) : Int)).tmod (((L.map mailR).length : Nat) : Int) = (k : Int) := by rw [hlml]; exact hke
          rw [hke']
          cases hkp : e.keep
          · rw [hkp] at hat2
            have hat2 : NetAt h2 0 M (delD L k) := hat2
            have hA : List.drop (Int.toNat 0) (List.take ((k : Nat) : Int).toNat (L.map mailR)) = (L.take k).map mailR := by rw [Int.toNat_natCast, List.map_take]; rfl
            have hB : List.drop (((k : Nat) : Int) + 1).toNat (L.map mailR) = (L.drop (k + 1)).map mailR := by rw [show (((k : Nat) : Int) + 1).toNat = k + 1 by omega, List.map_drop]
            have hroom2 : ∀ m ∈ delD L k, m.b.length ≤ 30 := fun m hm => by
              rcases List.mem_append.1 hm with h5 | h5
              · exact hroom m (List.mem_of_mem_take h5)
              · exact hroom m (List.mem_of_mem_drop h5)
            have hL2 : (delD L k).length ≤ i + 1 := by simp [delD]; omega
            have hAl : (L.take k).length ≤ 60 := by simp; omega
            have hBl : (L.drop (k + 1)).length ≤ 60 := by simp; omega
            have hde : delD L k = L.take k ++ L.drop (k + 1) := rfl
            generalize delD L k = L2 at *
            generalize L.take k = A at *
            generalize L.drop (k + 1) = B at *
            have hAm : (A.map mailR).length = A.length := List.length_map _
            have hBm : (B.map mailR).length = B.length := List.length_map _
            rcases A with _ | ⟨x, A⟩ <;> rcases B with _ | ⟨y, B⟩
            · have hL2n : L2 = [] := hde
              subst hL2n
              ((conv => whnf); repeat ((first | refine SIf.tt (by rw [hkp]; rfl) ?_ | refine SChk.ix (by omega) (by omega) ?_ | refine SCall.app (hsm _) ?_ | refine SEx.of (congrArg some hA) ?_ | refine SEx.of (congrArg some hB) ?_ | refine SSame.mk (congrArg (V.sl (some (.l t)) 3) hB.symm) ?_ | refine SChk.d2 (by omega) (by omega) ?_ | refine SChk.d3 (by omega) (by omega) (by omega) ?_ | refine SWrap.w64 (by omega) (by omega) ?_ | refine SEx.of (map_get' (by omega) he) ?_ | refine SEx.of (a1 _) ?_ | refine SEx.of (a2 _ _) ?_ | refine SEx.of (a3 _ _ _) ?_ | refine SEx.of (a4 _ _ _ _ _) ?_ | refine SEx.of (a5 _ _ _ _) ?_ | refine SEx.of (a6 _ _ _ _ _) ?_ | refine SEx.of (ht2) ?_ | refine SEx.of (a7 _ _ _) ?_ | refine SEx.of (a8 _ _ _ _ _) ?_ | refine SEx.of (a9 _ _ _ _) ?_ | refine SEx.of (map_get' (by omega) hmk) ?_ | refine yf rfl ?_ | refine yt rfl ?_ | refine yo rfl ?_ | refine yc rfl ?_ | refine ys rfl ?_ | refine ye rfl ?_ | refine yn rfl ?_ | refine zw ?_ | refine zdt ?_ | refine zdf ?_ | refine znt ?_ | refine znf ?_ | refine zcd ?_ | refine zci ?_ | refine zc3 ?_) <;> (conv => whnf)))
              have hall := fun K => all_at (K := K) hG hcl hal hat2 (by simp) (fun m hm => by cases hm)
              ((conv => whnf); repeat ((first | refine SCall.app (hall _) ?_ | refine SEx.of (map_get' (by omega) he) ?_ | refine SEx.of (a1 _) ?_ | refine SEx.of (a2 _ _) ?_ | refine SEx.of (a3 _ _ _) ?_ | refine SEx.of (a4 _ _ _ _ _) ?_ | refine SEx.of (a5 _ _ _ _) ?_ | refine SEx.of (a6 _ _ _ _ _) ?_ | refine SEx.of (ht2) ?_ | refine SEx.of (a7 _ _ _) ?_ | refine SEx.of (a8 _ _ _ _ _) ?_ | refine SEx.of (a9 _ _ _ _) ?_ | refine yf rfl ?_ | refine yt rfl ?_ | refine yo rfl ?_ | refine yc rfl ?_ | refine ys rfl ?_ | refine ye rfl ?_ | refine yn rfl ?_ | refine zw ?_ | refine zdt ?_ | refine zdf ?_ | refine znt ?_ | refine znf ?_ | refine zcd ?_ | refine zci ?_ | refine zc3 ?_) <;> (conv => whnf)))
              intro lv Q h3 hQ hA hk3
              have hQ0 : Q = [] := by cases Q with
                | nil => rfl
                | cons _ _ => simp at hQ
              subst hQ0
              have hat3 : NetAt h3 0 M [] := hat2.keep (hk3.mono fun _ _ x => x.elim)
              have hlen3 := fun K => len_at (K := K) hG hat3
              rcases hA.row with ⟨_, hlv⟩ | ⟨c, hlv, _⟩
              all_goals
                subst hlv
                ((conv => whnf); repeat ((first | refine SCall.app (hlen3 _) ?_ | refine SLoopV.un rfl ?_ | refine SWrap.w64 (by omega) (by omega) ?_ | refine SEx.of (map_get' (by omega) he) ?_ | refine SEx.of (a1 _) ?_ | refine SEx.of (a2 _ _) ?_ | refine SEx.of (a3 _ _ _) ?_ | refine SEx.of (a4 _ _ _ _ _) ?_ | refine SEx.of (a5 _ _ _ _) ?_ | refine SEx.of (a6 _ _ _ _ _) ?_ | refine SEx.of (ht2) ?_ | refine SEx.of (a7 _ _ _) ?_ | refine SEx.of (a8 _ _ _ _ _) ?_ | refine SEx.of (a9 _ _ _ _) ?_ | refine yf rfl ?_ | refine yt rfl ?_ | refine yo rfl ?_ | refine yc rfl ?_ | refine ys rfl ?_ | refine ye rfl ?_ | refine yn rfl ?_ | refine zw ?_ | refine zdt ?_ | refine zdf ?_ | refine znt ?_ | refine znf ?_ | refine zcd ?_ | refine zci ?_ | refine zc3 ?_) <;> (conv => whnf)))
                exact hR (60 - (i + 1)) _ _ (by omega) ⟨i + 1, [], h3, _, _, rfl, by omega, by simp, (fun m h => by cases h), hat3, .inl ⟨rfl, rfl⟩, (by repeat (first | exact Fr.le_nil | refine Fr.le_cons rfl ?_)), rfl⟩

            · have hne2 : L2 ≠ [] := by rw [hde]; simp
              have hLe : (y :: B).map mailR = L2.map mailR := by rw [hde]; simp
              ((conv => whnf); repeat ((first | refine SIf.tt (by rw [hkp]; rfl) ?_ | refine SChk.ix (by omega) (by omega) ?_ | refine SCall.app (hsm _) ?_ | refine SEx.of (congrArg some hA) ?_ | refine SEx.of (congrArg some hB) ?_ | refine SSame.mk (congrArg (V.sl (some (.l t)) 3) hB.symm) ?_ | refine SChk.d2 (by omega) (by omega) ?_ | refine SChk.d3 (by omega) (by omega) (by omega) ?_ | refine SWrap.w64 (by omega) (by omega) ?_ | refine SChk.mk (by simp [roomOk] at *; omega) ?_ | refine SEx.of (deep_map (fun _ => rfl) (y :: B)) ?_ | refine SEx.of (map_get' (by omega) he) ?_ | refine SEx.of (a1 _) ?_ | refine SEx.of (a2 _ _) ?_ | refine SEx.of (a3 _ _ _) ?_ | refine SEx.of (a4 _ _ _ _ _) ?_ | refine SEx.of (a5 _ _ _ _) ?_ | refine SEx.of (a6 _ _ _ _ _) ?_ | refine SEx.of (ht2) ?_ | refine SEx.of (a7 _ _ _) ?_ | refine SEx.of (a8 _ _ _ _ _) ?_ | refine SEx.of (a9 _ _ _ _) ?_ | refine SEx.of (map_get' (by omega) hmk) ?_ | refine SEx.of (Heap.get_push_self _ _) ?_ | refine yf rfl ?_ | refine yt rfl ?_ | refine yo rfl ?_ | refine yc rfl ?_ | refine ys rfl ?_ | refine ye rfl ?_ | refine yn rfl ?_ | refine zw ?_ | refine zdt ?_ | refine zdf ?_ | refine znt ?_ | refine znf ?_ | refine zcd ?_ | refine zci ?_ | refine zc3 ?_) <;> (conv => whnf)))
              rw [hLe]
              have hlm2 : (L2.map mailR).length = L2.length := List.length_map _
              have hpos2 : 0 < L2.length := List.length_pos_iff.2 hne2
              have hall := fun K => all_at (K := K) hG hcl hal hat2 (by omega) (fun m hm => by have := hroom2 m hm; omega)
              ((conv => whnf); repeat ((first | refine SCall.app (hall _) ?_ | refine SEx.of (map_get' (by omega) he) ?_ | refine SEx.of (a1 _) ?_ | refine SEx.of (a2 _ _) ?_ | refine SEx.of (a3 _ _ _) ?_ | refine SEx.of (a4 _ _ _ _ _) ?_ | refine SEx.of (a5 _ _ _ _) ?_ | refine SEx.of (a6 _ _ _ _ _) ?_ | refine SEx.of (ht2) ?_ | refine SEx.of (a7 _ _ _) ?_ | refine SEx.of (a8 _ _ _ _ _) ?_ | refine SEx.of (a9 _ _ _ _) ?_ | refine yf rfl ?_ | refine yt rfl ?_ | refine yo rfl ?_ | refine yc rfl ?_ | refine ys rfl ?_ | refine ye rfl ?_ | refine yn rfl ?_ | refine zw ?_ | refine zdt ?_ | refine zdf ?_ | refine znt ?_ | refine znf ?_ | refine zcd ?_ | refine zci ?_ | refine zc3 ?_) <;> (conv => whnf)))
              intro lv Q h3 hQ hA hk3
              have hQl : Q.length = L2.length := by simpa using congrArg List.length hQ
              have hQm : (Q.map amR).length = L2.length := by simpa using hQl
              have hat3 : NetAt h3 0 M L2 := hat2.keep (hk3.mono fun _ _ x => x.elim)
              have hlen3 := fun K => len_at (K := K) hG hat3
              rcases hA.row with ⟨hQ0, _⟩ | ⟨c, hlv, hc1, hc2, hcq, hc3⟩
              · subst hQ0
                exact absurd hQl.symm (by simp; exact hne2)
              subst hlv
              ((conv => whnf); repeat ((first | refine SCall.app (hlen3 _) ?_ | refine SIf.nf (by omega) ?_ | refine SIf.ff (by simp; omega) ?_ | refine SEx.of (map_get' (by omega) he) ?_ | refine SEx.of (a1 _) ?_ | refine SEx.of (a2 _ _) ?_ | refine SEx.of (a3 _ _ _) ?_ | refine SEx.of (a4 _ _ _ _ _) ?_ | refine SEx.of (a5 _ _ _ _) ?_ | refine SEx.of (a6 _ _ _ _ _) ?_ | refine SEx.of (ht2) ?_ | refine SEx.of (a7 _ _ _) ?_ | refine SEx.of (a8 _ _ _ _ _) ?_ | refine SEx.of (a9 _ _ _ _) ?_ | refine yf rfl ?_ | refine yt rfl ?_ | refine yo rfl ?_ | refine yc rfl ?_ | refine ys rfl ?_ | refine ye rfl ?_ | refine yn rfl ?_ | refine zw ?_ | refine zdt ?_ | refine zdf ?_ | refine znt ?_ | refine znf ?_ | refine zcd ?_ | refine zci ?_ | refine zc3 ?_) <;> (conv => whnf)))
              refine SLoopV.by (fun q fr st => ∃ (k : Nat) (hh lc : Heap), k ≤ L2.length ∧ q = L2.length - k ∧ Heap.Keeps (fun n => h2.next ≤ n) h2 hh ∧ c < hh.next ∧ hh.get c = some (.arr 3 (Q.map amR)) ∧ (∀ j q, k ≤ j → Q[j]? = some q → BAt hh h2.next q.1.b q.2) ∧ lo.next + 1 + 1 < lc.next ∧ lc.get (lo.next + 1 + 1) = some .spare ∧
                  Fr.le [(141, .i .i64 k), (140, .i .i64 Q.length), (13, .ms (.g c) 3 0 Q.length), (8, .i .i64 i), (7, .sl (some (.l (lo.next + 1 + 1))) 3 (L2.map mailR)), (6, .p (.g 0) 0), (1, .sl none 6 (ops.map nopR)), (0, .i .i64 M)] fr ∧ st = ⟨hh, lc⟩)
                L2.length ⟨0, h3, _, Nat.zero_le _, rfl, hk3.mono (fun _ _ x => x.elim), hc2, hc3, (fun j q _ hq => hA.its q (List.mem_of_getElem? hq)), Nat.lt_succ_self _, (by repeat (first | exact (Heap.get_push_self _ _) | exact Heap.get_push_self _ _ | refine Heap.gs (by first | omega | (show _ ≠ lo.next + 1; omega) | (show _ ≠ lo.next + 1 + 1; omega) | (show _ ≠ lo.next + 1 + 1 + 1; omega)) ?_ | refine Heap.gp (by first | omega | (show _ ≠ lo.next + 1; omega) | (show _ ≠ lo.next + 1 + 1; omega) | (show _ ≠ lo.next + 1 + 1 + 1; omega)) ?_ | refine Heap.gr (by first | omega | (show _ ≠ lo.next + 1; omega) | (show _ ≠ lo.next + 1 + 1; omega) | (show _ ≠ lo.next + 1 + 1 + 1; omega)) ?_)), (by repeat (first | exact Fr.le_nil | refine Fr.le_cons rfl ?_)), rfl⟩ ?_
              rintro q2 fr2 st2 ⟨k2, hh, lc, hkl, rfl, hkk, hch, hrow, hits, hlc1, hlc2, hle2, rfl⟩
              refine ⟨_, hle2, fun R2 hR2 => ?_⟩
              by_cases hkL : k2 < L2.length
              · have hm2 := List.getElem?_eq_getElem hkL
                generalize L2[k2] = m2 at hm2
                obtain ⟨o2, hq2⟩ : ∃ o2, Q[k2]? = some (m2, o2) := by
                  have h5 : (Q.map Prod.fst)[k2]? = some m2 := by rw [hQ]; exact hm2
                  rw [List.getElem?_map] at h5
                  obtain ⟨⟨a, b⟩, h6, h7⟩ := Option.map_eq_some_iff.1 h5
                  dsimp only at h7
                  subst h7
                  exact ⟨b, h6⟩
                have hbt := hits k2 _ (Nat.le_refl _) hq2
                have hsame := fun K => same_at (K := K) hG (BVal.of hbt)
                have hgq : (Q.map amR)[0 + ((k2 : Nat) : Int).toNat]? = some (amR (m2, o2)) := by rw [Nat.zero_add, Int.toNat_natCast, List.getElem?_map, hq2]; rfl
                have hnext : ∀ hj : Heap, Heap.Keeps (fun n => o2 = some n) hh hj → Heap.Keeps (fun n => h2.next ≤ n) h2 hj ∧ c < hj.next ∧ hj.get c = some (.arr 3 (Q.map amR)) ∧ ∀ j q, k2 + 1 ≤ j → Q[j]? = some q → BAt hj h2.next q.1.b q.2 := by
                  intro hj hkj
                  have hn := hkj.1
                  refine ⟨hkk.trans (hkj.mono fun n _ e => ?_), by omega, ?_, fun j q hjk hq => ?_⟩
                  · rw [e] at hbt; exact hbt.1
                  · rw [hkj.2 c (hch) (fun e => hcq _ (List.mem_of_getElem? hq2) e)]
                    exact hrow
                  · have h5 := hits j q (by omega) hq
                    cases hqo : q.2 with
                    | none => rw [hqo] at h5; exact h5
                    | some c' =>
                      rw [hqo] at h5
                      obtain ⟨h6, h7, h8⟩ := h5
                      refine ⟨h6, by omega, ?_⟩
                      rw [hkj.2 c' h7 (fun e => ?_)]
                      · exact h8
                      · rcases pair_get hA.inj (show k2 < j by omega) hq2 hq with h9 | h9
                        · have h10 : o2 = none := h9
                          rw [h10] at e; cases e
                        · exact h9 (e.trans hqo.symm)
                cases o2 with
                | none =>
                  obtain ⟨n1, n2, n3, n4⟩ := hnext hh (.refl _ _)
                  ((conv => whnf); repeat ((first | refine SIf.dt (by omega) ?_ | refine SChk.ix (by omega) (by omega) ?_ | refine SChk.mk (decide_eq_true (by omega)) ?_ | refine SCall.app (hsame _) ?_ | refine SLoopV.un rfl ?_ | refine SWrap.w64 (by omega) (by omega) ?_ | refine SEx.of (hrow) ?_ | refine SEx.of (hgq) ?_ | refine SEx.of (map_get' (by omega) hm2) ?_ | refine yf rfl ?_ | refine yt rfl ?_ | refine yo rfl ?_ | refine yc rfl ?_ | refine ys rfl ?_ | refine ye rfl ?_ | refine yn rfl ?_ | refine zw ?_ | refine zdt ?_ | refine zdf ?_ | refine znt ?_ | refine znf ?_ | refine zcd ?_ | refine zci ?_ | refine zc3 ?_) <;> (conv => whnf)))
                  exact hR2 (L2.length - (k2 + 1)) _ _ (by omega) ⟨k2 + 1, hh, lc, by omega, rfl, n1, n2, n3, n4, hlc1, hlc2, (by repeat (first | exact Fr.le_nil | refine Fr.le_cons rfl ?_)), rfl⟩
                | some c2 =>
                  obtain ⟨hb1, hb2, hb3⟩ := hbt
                  have hgq : (Q.map amR)[0 + ((k2 : Nat) : Int).toNat]? = some [.b m2.rep, .i .i64 m2.who, .ms (.g c2) 1 0 m2.b.length] := hgq
                  have hsame : ∀ K : V → Heap → Prop, K (.b true) hh → ACall P 27 [.agg [.b m2.rep, .i .i64 m2.who, .ms (.g c2) 1 0 m2.b.length], .agg (mailR m2)] hh K := fun K => hsame K
                  ((conv => whnf); repeat ((first | refine SIf.dt (by omega) ?_ | refine SChk.ix (by omega) (by omega) ?_ | refine SChk.mk (decide_eq_true (by omega)) ?_ | refine SCall.app (hsame _) ?_ | refine SEx.of (hrow) ?_ | refine SEx.of (hgq) ?_ | refine SEx.of (map_get' (by omega) hm2) ?_ | refine yf rfl ?_ | refine yt rfl ?_ | refine yo rfl ?_ | refine yc rfl ?_ | refine ys rfl ?_ | refine ye rfl ?_ | refine yn rfl ?_ | refine zw ?_ | refine zdt ?_ | refine zdf ?_ | refine znt ?_ | refine znf ?_ | refine zcd ?_ | refine zci ?_ | refine zc3 ?_) <;> (conv => whnf)))
                  refine SLoopV.by (fun q fr st => ∃ (j : Nat) (hj : Heap) (b' : List Int), j ≤ m2.b.length ∧ q = m2.b.length - j ∧ b'.length = m2.b.length ∧ Heap.Keeps (fun n => some c2 = some n) hh hj ∧ hj.get c2 = some (.arr 1 (b'.map byR)) ∧
                      Fr.le [(160, .i .i64 j), (159, .i .i64 m2.b.length), (14, .i .i64 k2), (141, .i .i64 k2), (140, .i .i64 Q.length), (13, .ms (.g c) 3 0 Q.length), (8, .i .i64 i), (7, .sl (some (.l (lo.next + 1 + 1))) 3 (L2.map mailR)), (6, .p (.g 0) 0), (1, .sl none 6 (ops.map nopR)), (0, .i .i64 M)] fr ∧ st = ⟨hj, lc⟩)
                    m2.b.length ⟨0, hh, m2.b, Nat.zero_le _, rfl, rfl, .refl _ _, hb3, (by repeat (first | exact Fr.le_nil | refine Fr.le_cons rfl ?_)), rfl⟩ ?_
                  rintro q3 fr3 st3 ⟨j, hj, b', hjl, rfl, hbl', hkj, hgj, hle3, rfl⟩
                  refine ⟨_, hle3, fun R3 hR3 => ?_⟩
                  obtain ⟨n1, n2, n3, n4⟩ := hnext hj hkj
                  have hm2l : m2.b.length ≤ 30 := hroom2 m2 (List.mem_of_getElem? hm2)
                  have hbm : (b'.map byR).length = m2.b.length := by simpa using hbl'
                  by_cases hjL : j < m2.b.length
                  · have hx := List.getElem?_eq_getElem (show j < b'.length by omega)
                    generalize b'[j] = x at hx
                    have hgx : (b'.map byR)[0 + ((j : Nat) : Int).toNat]? = some [.i .u8 x] := by rw [Nat.zero_add, Int.toNat_natCast, List.getElem?_map, hx]; rfl
                    ((conv => whnf); repeat ((first | refine SIf.dt (by omega) ?_ | refine SChk.ix (by omega) (by omega) ?_ | refine SChk.mk (decide_eq_true (by omega)) ?_ | refine SChk.mk (decide_eq_true (by omega)) ?_ | refine SEx.of (n3) ?_ | refine SEx.of (hgq) ?_ | refine SEx.of (hgj) ?_ | refine SEx.of (hgx) ?_ | refine yf rfl ?_ | refine yt rfl ?_ | refine yo rfl ?_ | refine yc rfl ?_ | refine ys rfl ?_ | refine ye rfl ?_ | refine yn rfl ?_ | refine zw ?_ | refine zdt ?_ | refine zdf ?_ | refine znt ?_ | refine znf ?_ | refine zcd ?_ | refine zci ?_ | refine zc3 ?_) <;> (conv => whnf)))
                    refine SWrap.mk ?_
                    generalize IntKind.u8.wrap (x + 1) = y
                    have hset : ((b'.map byR).set (0 + ((j : Nat) : Int).toNat) [.i .u8 y]) = (b'.set j y).map byR := by rw [Nat.zero_add, Int.toNat_natCast, List.map_set]; rfl
                    ((conv => whnf); repeat ((first | refine SIf.dt (by omega) ?_ | refine SChk.ix (by omega) (by omega) ?_ | refine SChk.mk (decide_eq_true (by omega)) ?_ | refine SWrap.w64 (by omega) (by omega) ?_ | refine SEx.of (n3) ?_ | refine SEx.of (hgq) ?_ | refine SEx.of (hgj) ?_ | refine SEx.of (hgx) ?_ | refine yf rfl ?_ | refine yt rfl ?_ | refine yo rfl ?_ | refine yc rfl ?_ | refine ys rfl ?_ | refine ye rfl ?_ | refine yn rfl ?_ | refine zw ?_ | refine zdt ?_ | refine zdf ?_ | refine znt ?_ | refine znf ?_ | refine zcd ?_ | refine zci ?_ | refine zc3 ?_) <;> (conv => whnf)))
                    have hkj2 : Heap.Keeps (fun n => some c2 = some n) hh (hj.set c2 (.arr 1 ((b'.set j y).map byR))) := Heap.Keeps.set hkj (.inl rfl) _
                    have hst : hj.set c2 (.arr 1 ((b'.map byR).set (0 + ((j : Nat) : Int).toNat) [.i .u8 y])) = hj.set c2 (.arr 1 ((b'.set j y).map byR)) := by rw [hset]
                    refine hR3 (m2.b.length - (j + 1)) _ _ (by omega) ⟨j + 1, hj.set c2 (.arr 1 ((b'.set j y).map byR)), b'.set j y, by omega, rfl, by simpa using hbl', hkj2, Heap.get_set_self hgj, (by repeat (first | exact Fr.le_nil | refine Fr.le_cons rfl ?_)), ?_⟩
                    exact congrArg (fun x => (⟨x, lc⟩ : St)) hst
                  · ((conv => whnf); repeat ((first | refine SIf.df (by omega) ?_ | refine SWrap.w64 (by omega) (by omega) ?_ | refine yf rfl ?_ | refine yt rfl ?_ | refine yo rfl ?_ | refine yc rfl ?_ | refine ys rfl ?_ | refine ye rfl ?_ | refine yn rfl ?_ | refine zw ?_ | refine zdt ?_ | refine zdf ?_ | refine znt ?_ | refine znf ?_ | refine zcd ?_ | refine zci ?_ | refine zc3 ?_) <;> (conv => whnf)))
                    exact hR2 (L2.length - (k2 + 1)) _ _ (by omega) ⟨k2 + 1, hj, lc, by omega, rfl, n1, n2, n3, n4, hlc1, hlc2, (by repeat (first | exact Fr.le_nil | refine Fr.le_cons rfl ?_)), rfl⟩
              · ((conv => whnf); repeat ((first | refine SIf.df (by omega) ?_ | refine SWrap.w64 (by omega) (by omega) ?_ | refine yf rfl ?_ | refine yt rfl ?_ | refine yo rfl ?_ | refine yc rfl ?_ | refine ys rfl ?_ | refine ye rfl ?_ | refine yn rfl ?_ | refine zw ?_ | refine zdt ?_ | refine zdf ?_ | refine znt ?_ | refine znf ?_ | refine zcd ?_ | refine zci ?_ | refine zc3 ?_) <;> (conv => whnf)))
                exact hR (60 - (i + 1)) _ _ (by omega) ⟨i + 1, L2, hh, lc, _, rfl, by omega, hL2, hroom2, hat2.keep hkk, .inr ⟨_, rfl, hlc1, hlc2⟩, (by repeat (first | exact Fr.le_nil | refine Fr.le_cons rfl ?_)), rfl⟩

            · have hne2 : L2 ≠ [] := by rw [hde]; simp
              have hLe : (x :: A).map mailR = L2.map mailR := by rw [hde]; simp
              ((conv => whnf); repeat ((first | refine SIf.tt (by rw [hkp]; rfl) ?_ | refine SChk.ix (by omega) (by omega) ?_ | refine SCall.app (hsm _) ?_ | refine SEx.of (congrArg some hA) ?_ | refine SEx.of (congrArg some hB) ?_ | refine SSame.mk (congrArg (V.sl (some (.l t)) 3) hB.symm) ?_ | refine SChk.d2 (by omega) (by omega) ?_ | refine SChk.d3 (by omega) (by omega) (by omega) ?_ | refine SWrap.w64 (by omega) (by omega) ?_ | refine SChk.mk (by simp [roomOk] at *; omega) ?_ | refine SEx.of (deep_map (fun _ => rfl) (x :: A)) ?_ | refine SEx.of (map_get' (by omega) he) ?_ | refine SEx.of (a1 _) ?_ | refine SEx.of (a2 _ _) ?_ | refine SEx.of (a3 _ _ _) ?_ | refine SEx.of (a4 _ _ _ _ _) ?_ | refine SEx.of (a5 _ _ _ _) ?_ | refine SEx.of (a6 _ _ _ _ _) ?_ | refine SEx.of (ht2) ?_ | refine SEx.of (a7 _ _ _) ?_ | refine SEx.of (a8 _ _ _ _ _) ?_ | refine SEx.of (a9 _ _ _ _) ?_ | refine SEx.of (map_get' (by omega) hmk) ?_ | refine SEx.of (Heap.get_push_self _ _) ?_ | refine yf rfl ?_ | refine yt rfl ?_ | refine yo rfl ?_ | refine yc rfl ?_ | refine ys rfl ?_ | refine ye rfl ?_ | refine yn rfl ?_ | refine zw ?_ | refine zdt ?_ | refine zdf ?_ | refine znt ?_ | refine znf ?_ | refine zcd ?_ | refine zci ?_ | refine zc3 ?_) <;> (conv => whnf)))
              rw [hLe]
              have hlm2 : (L2.map mailR).length = L2.length := List.length_map _
              have hpos2 : 0 < L2.length := List.length_pos_iff.2 hne2
              have hall := fun K => all_at (K := K) hG hcl hal hat2 (by omega) (fun m hm => by have := hroom2 m hm; omega)
              ((conv => whnf); repeat ((first | refine SCall.app (hall _) ?_ | refine SEx.of (map_get' (by omega) he) ?_ | refine SEx.of (a1 _) ?_ | refine SEx.of (a2 _ _) ?_ | refine SEx.of (a3 _ _ _) ?_ | refine SEx.of (a4 _ _ _ _ _) ?_ | refine SEx.of (a5 _ _ _ _) ?_ | refine SEx.of (a6 _ _ _ _ _) ?_ | refine SEx.of (ht2) ?_ | refine SEx.of (a7 _ _ _) ?_ | refine SEx.of (a8 _ _ _ _ _) ?_ | refine SEx.of (a9 _ _ _ _) ?_ | refine yf rfl ?_ | refine yt rfl ?_ | refine yo rfl ?_ | refine yc rfl ?_ | refine ys rfl ?_ | refine ye rfl ?_ | refine yn rfl ?_ | refine zw ?_ | refine zdt ?_ | refine zdf ?_ | refine znt ?_ | refine znf ?_ | refine zcd ?_ | refine zci ?_ | refine zc3 ?_) <;> (conv => whnf)))
              intro lv Q h3 hQ hA hk3
              have hQl : Q.length = L2.length := by simpa using congrArg List.length hQ
              have hQm : (Q.map amR).length = L2.length := by simpa using hQl
              have hat3 : NetAt h3 0 M L2 := hat2.keep (hk3.mono fun _ _ x => x.elim)
              have hlen3 := fun K => len_at (K := K) hG hat3
              rcases hA.row with ⟨hQ0, _⟩ | ⟨c, hlv, hc1, hc2, hcq, hc3⟩
              · subst hQ0
                exact absurd hQl.symm (by simp; exact hne2)
              subst hlv
              ((conv => whnf); repeat ((first | refine SCall.app (hlen3 _) ?_ | refine SIf.nf (by omega) ?_ | refine SIf.ff (by simp; omega) ?_ | refine SEx.of (map_get' (by omega) he) ?_ | refine SEx.of (a1 _) ?_ | refine SEx.of (a2 _ _) ?_ | refine SEx.of (a3 _ _ _) ?_ | refine SEx.of (a4 _ _ _ _ _) ?_ | refine SEx.of (a5 _ _ _ _) ?_ | refine SEx.of (a6 _ _ _ _ _) ?_ | refine SEx.of (ht2) ?_ | refine SEx.of (a7 _ _ _) ?_ | refine SEx.of (a8 _ _ _ _ _) ?_ | refine SEx.of (a9 _ _ _ _) ?_ | refine yf rfl ?_ | refine yt rfl ?_ | refine yo rfl ?_ | refine yc rfl ?_ | refine ys rfl ?_ | refine ye rfl ?_ | refine yn rfl ?_ | refine zw ?_ | refine zdt ?_ | refine zdf ?_ | refine znt ?_ | refine znf ?_ | refine zcd ?_ | refine zci ?_ | refine zc3 ?_) <;> (conv => whnf)))
              refine SLoopV.by (fun q fr st => ∃ (k : Nat) (hh lc : Heap), k ≤ L2.length ∧ q = L2.length - k ∧ Heap.Keeps (fun n => h2.next ≤ n) h2 hh ∧ c < hh.next ∧ hh.get c = some (.arr 3 (Q.map amR)) ∧ (∀ j q, k ≤ j → Q[j]? = some q → BAt hh h2.next q.1.b q.2) ∧ lo.next + 1 + 1 < lc.next ∧ lc.get (lo.next + 1 + 1) = some .spare ∧
                  Fr.le [(141, .i .i64 k), (140, .i .i64 Q.length), (13, .ms (.g c) 3 0 Q.length), (8, .i .i64 i), (7, .sl (some (.l (lo.next + 1 + 1))) 3 (L2.map mailR)), (6, .p (.g 0) 0), (1, .sl none 6 (ops.map nopR)), (0, .i .i64 M)] fr ∧ st = ⟨hh, lc⟩)
                L2.length ⟨0, h3, _, Nat.zero_le _, rfl, hk3.mono (fun _ _ x => x.elim), hc2, hc3, (fun j q _ hq => hA.its q (List.mem_of_getElem? hq)), Nat.lt_succ_self _, (by repeat (first | exact (Heap.get_push_self _ _) | exact Heap.get_push_self _ _ | refine Heap.gs (by first | omega | (show _ ≠ lo.next + 1; omega) | (show _ ≠ lo.next + 1 + 1; omega) | (show _ ≠ lo.next + 1 + 1 + 1; omega)) ?_ | refine Heap.gp (by first | omega | (show _ ≠ lo.next + 1; omega) | (show _ ≠ lo.next + 1 + 1; omega) | (show _ ≠ lo.next + 1 + 1 + 1; omega)) ?_ | refine Heap.gr (by first | omega | (show _ ≠ lo.next + 1; omega) | (show _ ≠ lo.next + 1 + 1; omega) | (show _ ≠ lo.next + 1 + 1 + 1; omega)) ?_)), (by repeat (first | exact Fr.le_nil | refine Fr.le_cons rfl ?_)), rfl⟩ ?_
              rintro q2 fr2 st2 ⟨k2, hh, lc, hkl, rfl, hkk, hch, hrow, hits, hlc1, hlc2, hle2, rfl⟩
              refine ⟨_, hle2, fun R2 hR2 => ?_⟩
              by_cases hkL : k2 < L2.length
              · have hm2 := List.getElem?_eq_getElem hkL
                generalize L2[k2] = m2 at hm2
                obtain ⟨o2, hq2⟩ : ∃ o2, Q[k2]? = some (m2, o2) := by
                  have h5 : (Q.map Prod.fst)[k2]? = some m2 := by rw [hQ]; exact hm2
                  rw [List.getElem?_map] at h5
                  obtain ⟨⟨a, b⟩, h6, h7⟩ := Option.map_eq_some_iff.1 h5
                  dsimp only at h7
                  subst h7
                  exact ⟨b, h6⟩
                have hbt := hits k2 _ (Nat.le_refl _) hq2
                have hsame := fun K => same_at (K := K) hG (BVal.of hbt)
                have hgq : (Q.map amR)[0 + ((k2 : Nat) : Int).toNat]? = some (amR (m2, o2)) := by rw [Nat.zero_add, Int.toNat_natCast, List.getElem?_map, hq2]; rfl
                have hnext : ∀ hj : Heap, Heap.Keeps (fun n => o2 = some n) hh hj → Heap.Keeps (fun n => h2.next ≤ n) h2 hj ∧ c < hj.next ∧ hj.get c = some (.arr 3 (Q.map amR)) ∧ ∀ j q, k2 + 1 ≤ j → Q[j]? = some q → BAt hj h2.next q.1.b q.2 := by
                  intro hj hkj
                  have hn := hkj.1
                  refine ⟨hkk.trans (hkj.mono fun n _ e => ?_), by omega, ?_, fun j q hjk hq => ?_⟩
                  · rw [e] at hbt; exact hbt.1
                  · rw [hkj.2 c (hch) (fun e => hcq _ (List.mem_of_getElem? hq2) e)]
                    exact hrow
                  · have h5 := hits j q (by omega) hq
                    cases hqo : q.2 with
                    | none => rw [hqo] at h5; exact h5
                    | some c' =>
                      rw [hqo] at h5
                      obtain ⟨h6, h7, h8⟩ := h5
                      refine ⟨h6, by omega, ?_⟩
                      rw [hkj.2 c' h7 (fun e => ?_)]
                      · exact h8
                      · rcases pair_get hA.inj (show k2 < j by omega) hq2 hq with h9 | h9
                        · have h10 : o2 = none := h9
                          rw [h10] at e; cases e
                        · exact h9 (e.trans hqo.symm)
                cases o2 with
                | none =>
                  obtain ⟨n1, n2, n3, n4⟩ := hnext hh (.refl _ _)
                  ((conv => whnf); repeat ((first | refine SIf.dt (by omega) ?_ | refine SChk.ix (by omega) (by omega) ?_ | refine SChk.mk (decide_eq_true (by omega)) ?_ | refine SCall.app (hsame _) ?_ | refine SLoopV.un rfl ?_ | refine SWrap.w64 (by omega) (by omega) ?_ | refine SEx.of (hrow) ?_ | refine SEx.of (hgq) ?_ | refine SEx.of (map_get' (by omega) hm2) ?_ | refine yf rfl ?_ | refine yt rfl ?_ | refine yo rfl ?_ | refine yc rfl ?_ | refine ys rfl ?_ | refine ye rfl ?_ | refine yn rfl ?_ | refine zw ?_ | refine zdt ?_ | refine zdf ?_ | refine znt ?_ | refine znf ?_ | refine zcd ?_ | refine zci ?_ | refine zc3 ?_) <;> (conv => whnf)))
                  exact hR2 (L2.length - (k2 + 1)) _ _ (by omega) ⟨k2 + 1, hh, lc, by omega, rfl, n1, n2, n3, n4, hlc1, hlc2, (by repeat (first | exact Fr.le_nil | refine Fr.le_cons rfl ?_)), rfl⟩
                | some c2 =>
                  obtain ⟨hb1, hb2, hb3⟩ := hbt
                  have hgq : (Q.map amR)[0 + ((k2 : Nat) : Int).toNat]? = some [.b m2.rep, .i .i64 m2.who, .ms (.g c2) 1 0 m2.b.length] := hgq
                  have hsame : ∀ K : V → Heap → Prop, K (.b true) hh → ACall P 27 [.agg [.b m2.rep, .i .i64 m2.who, .ms (.g c2) 1 0 m2.b.length], .agg (mailR m2)] hh K := fun K => hsame K
                  ((conv => whnf); repeat ((first | refine SIf.dt (by omega) ?_ | refine SChk.ix (by omega) (by omega) ?_ | refine SChk.mk (decide_eq_true (by omega)) ?_ | refine SCall.app (hsame _) ?_ | refine SEx.of (hrow) ?_ | refine SEx.of (hgq) ?_ | refine SEx.of (map_get' (by omega) hm2) ?_ | refine yf rfl ?_ | refine yt rfl ?_ | refine yo rfl ?_ | refine yc rfl ?_ | refine ys rfl ?_ | refine ye rfl ?_ | refine yn rfl ?_ | refine zw ?_ | refine zdt ?_ | refine zdf ?_ | refine znt ?_ | refine znf ?_ | refine zcd ?_ | refine zci ?_ | refine zc3 ?_) <;> (conv => whnf)))
                  refine SLoopV.by (fun q fr st => ∃ (j : Nat) (hj : Heap) (b' : List Int), j ≤ m2.b.length ∧ q = m2.b.length - j ∧ b'.length = m2.b.length ∧ Heap.Keeps (fun n => some c2 = some n) hh hj ∧ hj.get c2 = some (.arr 1 (b'.map byR)) ∧
                      Fr.le [(160, .i .i64 j), (159, .i .i64 m2.b.length), (14, .i .i64 k2), (141, .i .i64 k2), (140, .i .i64 Q.length), (13, .ms (.g c) 3 0 Q.length), (8, .i .i64 i), (7, .sl (some (.l (lo.next + 1 + 1))) 3 (L2.map mailR)), (6, .p (.g 0) 0), (1, .sl none 6 (ops.map nopR)), (0, .i .i64 M)] fr ∧ st = ⟨hj, lc⟩)
                    m2.b.length ⟨0, hh, m2.b, Nat.zero_le _, rfl, rfl, .refl _ _, hb3, (by repeat (first | exact Fr.le_nil | refine Fr.le_cons rfl ?_)), rfl⟩ ?_
                  rintro q3 fr3 st3 ⟨j, hj, b', hjl, rfl, hbl', hkj, hgj, hle3, rfl⟩
                  refine ⟨_, hle3, fun R3 hR3 => ?_⟩
                  obtain ⟨n1, n2, n3, n4⟩ := hnext hj hkj
                  have hm2l : m2.b.length ≤ 30 := hroom2 m2 (List.mem_of_getElem? hm2)
                  have hbm : (b'.map byR).length = m2.b.length := by simpa using hbl'
                  by_cases hjL : j < m2.b.length
                  · have hx := List.getElem?_eq_getElem (show j < b'.length by omega)
                    generalize b'[j] = x at hx
                    have hgx : (b'.map byR)[0 + ((j : Nat) : Int).toNat]? = some [.i .u8 x] := by rw [Nat.zero_add, Int.toNat_natCast, List.getElem?_map, hx]; rfl
                    ((conv => whnf); repeat ((first | refine SIf.dt (by omega) ?_ | refine SChk.ix (by omega) (by omega) ?_ | refine SChk.mk (decide_eq_true (by omega)) ?_ | refine SChk.mk (decide_eq_true (by omega)) ?_ | refine SEx.of (n3) ?_ | refine SEx.of (hgq) ?_ | refine SEx.of (hgj) ?_ | refine SEx.of (hgx) ?_ | refine yf rfl ?_ | refine yt rfl ?_ | refine yo rfl ?_ | refine yc rfl ?_ | refine ys rfl ?_ | refine ye rfl ?_ | refine yn rfl ?_ | refine zw ?_ | refine zdt ?_ | refine zdf ?_ | refine znt ?_ | refine znf ?_ | refine zcd ?_ | refine zci ?_ | refine zc3 ?_) <;> (conv => whnf)))
                    refine SWrap.mk ?_
                    generalize IntKind.u8.wrap (x + 1) = y
                    have hset : ((b'.map byR).set (0 + ((j : Nat) : Int).toNat) [.i .u8 y]) = (b'.set j y).map byR := by rw [Nat.zero_add, Int.toNat_natCast, List.map_set]; rfl
                    ((conv => whnf); repeat ((first | refine SIf.dt (by omega) ?_ | refine SChk.ix (by omega) (by omega) ?_ | refine SChk.mk (decide_eq_true (by omega)) ?_ | refine SWrap.w64 (by omega) (by omega) ?_ | refine SEx.of (n3) ?_ | refine SEx.of (hgq) ?_ | refine SEx.of (hgj) ?_ | refine SEx.of (hgx) ?_ | refine yf rfl ?_ | refine yt rfl ?_ | refine yo rfl ?_ | refine yc rfl ?_ | refine ys rfl ?_ | refine ye rfl ?_ | refine yn rfl ?_ | refine zw ?_ | refine zdt ?_ | refine zdf ?_ | refine znt ?_ | refine znf ?_ | refine zcd ?_ | refine zci ?_ | refine zc3 ?_) <;> (conv => whnf)))
                    have hkj2 : Heap.Keeps (fun n => some c2 = some n) hh (hj.set c2 (.arr 1 ((b'.set j y).map byR))) := Heap.Keeps.set hkj (.inl rfl) _
                    have hst : hj.set c2 (.arr 1 ((b'.map byR).set (0 + ((j : Nat) : Int).toNat) [.i .u8 y])) = hj.set c2 (.arr 1 ((b'.set j y).map byR)) := by rw [hset]
                    refine hR3 (m2.b.length - (j + 1)) _ _ (by omega) ⟨j + 1, hj.set c2 (.arr 1 ((b'.set j y).map byR)), b'.set j y, by omega, rfl, by simpa using hbl', hkj2, Heap.get_set_self hgj, (by repeat (first | exact Fr.le_nil | refine Fr.le_cons rfl ?_)), ?_⟩
                    exact congrArg (fun x => (⟨x, lc⟩ : St)) hst
                  · ((conv => whnf); repeat ((first | refine SIf.df (by omega) ?_ | refine SWrap.w64 (by omega) (by omega) ?_ | refine yf rfl ?_ | refine yt rfl ?_ | refine yo rfl ?_ | refine yc rfl ?_ | refine ys rfl ?_ | refine ye rfl ?_ | refine yn rfl ?_ | refine zw ?_ | refine zdt ?_ | refine zdf ?_ | refine znt ?_ | refine znf ?_ | refine zcd ?_ | refine zci ?_ | refine zc3 ?_) <;> (conv => whnf)))
                    exact hR2 (L2.length - (k2 + 1)) _ _ (by omega) ⟨k2 + 1, hj, lc, by omega, rfl, n1, n2, n3, n4, hlc1, hlc2, (by repeat (first | exact Fr.le_nil | refine Fr.le_cons rfl ?_)), rfl⟩
              · ((conv => whnf); repeat ((first | refine SIf.df (by omega) ?_ | refine SWrap.w64 (by omega) (by omega) ?_ | refine yf rfl ?_ | refine yt rfl ?_ | refine yo rfl ?_ | refine yc rfl ?_ | refine ys rfl ?_ | refine ye rfl ?_ | refine yn rfl ?_ | refine zw ?_ | refine zdt ?_ | refine zdf ?_ | refine znt ?_ | refine znf ?_ | refine zcd ?_ | refine zci ?_ | refine zc3 ?_) <;> (conv => whnf)))
                exact hR (60 - (i + 1)) _ _ (by omega) ⟨i + 1, L2, hh, lc, _, rfl, by omega, hL2, hroom2, hat2.keep hkk, .inr ⟨_, rfl, hlc1, hlc2⟩, (by repeat (first | exact Fr.le_nil | refine Fr.le_cons rfl ?_)), rfl⟩

            · have hne2 : L2 ≠ [] := by rw [hde]; simp
              have hLe : (x :: A).map mailR ++ (y :: B).map mailR = L2.map mailR := by rw [hde]; simp
              ((conv => whnf); repeat ((first | refine SIf.tt (by rw [hkp]; rfl) ?_ | refine SChk.ix (by omega) (by omega) ?_ | refine SCall.app (hsm _) ?_ | refine SEx.of (congrArg some hA) ?_ | refine SEx.of (congrArg some hB) ?_ | refine SSame.mk (congrArg (V.sl (some (.l t)) 3) hB.symm) ?_ | refine SChk.d2 (by omega) (by omega) ?_ | refine SChk.d3 (by omega) (by omega) (by omega) ?_ | refine SWrap.w64 (by omega) (by omega) ?_ | refine SChk.mk (by simp [roomOk] at *; omega) ?_ | refine SEx.of (deep_map (fun _ => rfl) (x :: A)) ?_ | refine SEx.of (deep_map (fun _ => rfl) (y :: B)) ?_ | refine SEx.of (map_get' (by omega) he) ?_ | refine SEx.of (a1 _) ?_ | refine SEx.of (a2 _ _) ?_ | refine SEx.of (a3 _ _ _) ?_ | refine SEx.of (a4 _ _ _ _ _) ?_ | refine SEx.of (a5 _ _ _ _) ?_ | refine SEx.of (a6 _ _ _ _ _) ?_ | refine SEx.of (ht2) ?_ | refine SEx.of (a7 _ _ _) ?_ | refine SEx.of (a8 _ _ _ _ _) ?_ | refine SEx.of (a9 _ _ _ _) ?_ | refine SEx.of (map_get' (by omega) hmk) ?_ | refine SEx.of (Heap.get_push_self _ _) ?_ | refine yf rfl ?_ | refine yt rfl ?_ | refine yo rfl ?_ | refine yc rfl ?_ | refine ys rfl ?_ | refine ye rfl ?_ | refine yn rfl ?_ | refine zw ?_ | refine zdt ?_ | refine zdf ?_ | refine znt ?_ | refine znf ?_ | refine zcd ?_ | refine zci ?_ | refine zc3 ?_) <;> (conv => whnf)))
              rw [hLe]
              have hlm2 : (L2.map mailR).length = L2.length := List.length_map _
              have hpos2 : 0 < L2.length := List.length_pos_iff.2 hne2
              have hall := fun K => all_at (K := K) hG hcl hal hat2 (by omega) (fun m hm => by have := hroom2 m hm; omega)
              ((conv => whnf); repeat ((first | refine SCall.app (hall _) ?_ | refine SEx.of (map_get' (by omega) he) ?_ | refine SEx.of (a1 _) ?_ | refine SEx.of (a2 _ _) ?_ | refine SEx.of (a3 _ _ _) ?_ | refine SEx.of (a4 _ _ _ _ _) ?_ | refine SEx.of (a5 _ _ _ _) ?_ | refine SEx.of (a6 _ _ _ _ _) ?_ | refine SEx.of (ht2) ?_ | refine SEx.of (a7 _ _ _) ?_ | refine SEx.of (a8 _ _ _ _ _) ?_ | refine SEx.of (a9 _ _ _ _) ?_ | refine yf rfl ?_ | refine yt rfl ?_ | refine yo rfl ?_ | refine yc rfl ?_ | refine ys rfl ?_ | refine ye rfl ?_ | refine yn rfl ?_ | refine zw ?_ | refine zdt ?_ | refine zdf ?_ | refine znt ?_ | refine znf ?_ | refine zcd ?_ | refine zci ?_ | refine zc3 ?_) <;> (conv => whnf)))
              intro lv Q h3 hQ hA hk3
              have hQl : Q.length = L2.length := by simpa using congrArg List.length hQ
              have hQm : (Q.map amR).length = L2.length := by simpa using hQl
              have hat3 : NetAt h3 0 M L2 := hat2.keep (hk3.mono fun _ _ x => x.elim)
              have hlen3 := fun K => len_at (K := K) hG hat3
              rcases hA.row with ⟨hQ0, _⟩ | ⟨c, hlv, hc1, hc2, hcq, hc3⟩
              · subst hQ0
                exact absurd hQl.symm (by simp; exact hne2)
              subst hlv
              ((conv => whnf); repeat ((first | refine SCall.app (hlen3 _) ?_ | refine SIf.nf (by omega) ?_ | refine SIf.ff (by simp; omega) ?_ | refine SEx.of (map_get' (by omega) he) ?_ | refine SEx.of (a1 _) ?_ | refine SEx.of (a2 _ _) ?_ | refine SEx.of (a3 _ _ _) ?_ | refine SEx.of (a4 _ _ _ _ _) ?_ | refine SEx.of (a5 _ _ _ _) ?_ | refine SEx.of (a6 _ _ _ _ _) ?_ | refine SEx.of (ht2) ?_ | refine SEx.of (a7 _ _ _) ?_ | refine SEx.of (a8 _ _ _ _ _) ?_ | refine SEx.of (a9 _ _ _ _) ?_ | refine yf rfl ?_ | refine yt rfl ?_ | refine yo rfl ?_ | refine yc rfl ?_ | refine ys rfl ?_ | refine ye rfl ?_ | refine yn rfl ?_ | refine zw ?_ | refine zdt ?_ | refine zdf ?_ | refine znt ?_ | refine znf ?_ | refine zcd ?_ | refine zci ?_ | refine zc3 ?_) <;> (conv => whnf)))
              refine SLoopV.by (fun q fr st => ∃ (k : Nat) (hh lc : Heap), k ≤ L2.length ∧ q = L2.length - k ∧ Heap.Keeps (fun n => h2.next ≤ n) h2 hh ∧ c < hh.next ∧ hh.get c = some (.arr 3 (Q.map amR)) ∧ (∀ j q, k ≤ j → Q[j]? = some q → BAt hh h2.next q.1.b q.2) ∧ lo.next + 1 + 1 + 1 < lc.next ∧ lc.get (lo.next + 1 + 1 + 1) = some .spare ∧
                  Fr.le [(141, .i .i64 k), (140, .i .i64 Q.length), (13, .ms (.g c) 3 0 Q.length), (8, .i .i64 i), (7, .sl (some (.l (lo.next + 1 + 1 + 1))) 3 (L2.map mailR)), (6, .p (.g 0) 0), (1, .sl none 6 (ops.map nopR)), (0, .i .i64 M)] fr ∧ st = ⟨hh, lc⟩)
                L2.length ⟨0, h3, _, Nat.zero_le _, rfl, hk3.mono (fun _ _ x => x.elim), hc2, hc3, (fun j q _ hq => hA.its q (List.mem_of_getElem? hq)), Nat.lt_succ_self _, (by repeat (first | exact (Heap.get_push_self _ _) | exact Heap.get_push_self _ _ | refine Heap.gs (by first | omega | (show _ ≠ lo.next + 1; omega) | (show _ ≠ lo.next + 1 + 1; omega) | (show _ ≠ lo.next + 1 + 1 + 1; omega)) ?_ | refine Heap.gp (by first | omega | (show _ ≠ lo.next + 1; omega) | (show _ ≠ lo.next + 1 + 1; omega) | (show _ ≠ lo.next + 1 + 1 + 1; omega)) ?_ | refine Heap.gr (by first | omega | (show _ ≠ lo.next + 1; omega) | (show _ ≠ lo.next + 1 + 1; omega) | (show _ ≠ lo.next + 1 + 1 + 1; omega)) ?_)), (by repeat (first | exact Fr.le_nil | refine Fr.le_cons rfl ?_)), rfl⟩ ?_
              rintro q2 fr2 st2 ⟨k2, hh, lc, hkl, rfl, hkk, hch, hrow, hits, hlc1, hlc2, hle2, rfl⟩
              refine ⟨_, hle2, fun R2 hR2 => ?_⟩
              by_cases hkL : k2 < L2.length
              · have hm2 := List.getElem?_eq_getElem hkL
                generalize L2[k2] = m2 at hm2
                obtain ⟨o2, hq2⟩ : ∃ o2, Q[k2]? = some (m2, o2) := by
                  have h5 : (Q.map Prod.fst)[k2]? = some m2 := by rw [hQ]; exact hm2
                  rw [List.getElem?_map] at h5
                  obtain ⟨⟨a, b⟩, h6, h7⟩ := Option.map_eq_some_iff.1 h5
                  dsimp only at h7
                  subst h7
                  exact ⟨b, h6⟩
                have hbt := hits k2 _ (Nat.le_refl _) hq2
                have hsame := fun K => same_at (K := K) hG (BVal.of hbt)
                have hgq : (Q.map amR)[0 + ((k2 : Nat) : Int).toNat]? = some (amR (m2, o2)) := by rw [Nat.zero_add, Int.toNat_natCast, List.getElem?_map, hq2]; rfl
                have hnext : ∀ hj : Heap, Heap.Keeps (fun n => o2 = some n) hh hj → Heap.Keeps (fun n => h2.next ≤ n) h2 hj ∧ c < hj.next ∧ hj.get c = some (.arr 3 (Q.map amR)) ∧ ∀ j q, k2 + 1 ≤ j → Q[j]? = some q → BAt hj h2.next q.1.b q.2 := by
                  intro hj hkj
                  have hn := hkj.1
                  refine ⟨hkk.trans (hkj.mono fun n _ e => ?_), by omega, ?_, fun j q hjk hq => ?_⟩
                  · rw [e] at hbt; exact hbt.1
                  · rw [hkj.2 c (hch) (fun e => hcq _ (List.mem_of_getElem? hq2) e)]
                    exact hrow
                  · have h5 := hits j q (by omega) hq
                    cases hqo : q.2 with
                    | none => rw [hqo] at h5; exact h5
                    | some c' =>
                      rw [hqo] at h5
                      obtain ⟨h6, h7, h8⟩ := h5
                      refine ⟨h6, by omega, ?_⟩
                      rw [hkj.2 c' h7 (fun e => ?_)]
                      · exact h8
                      · rcases pair_get hA.inj (show k2 < j by omega) hq2 hq with h9 | h9
                        · have h10 : o2 = none := h9
                          rw [h10] at e; cases e
                        · exact h9 (e.trans hqo.symm)
                cases o2 with
                | none =>
                  obtain ⟨n1, n2, n3, n4⟩ := hnext hh (.refl _ _)
                  ((conv => whnf); repeat ((first | refine SIf.dt (by omega) ?_ | refine SChk.ix (by omega) (by omega) ?_ | refine SChk.mk (decide_eq_true (by omega)) ?_ | refine SCall.app (hsame _) ?_ | refine SLoopV.un rfl ?_ | refine SWrap.w64 (by omega) (by omega) ?_ | refine SEx.of (hrow) ?_ | refine SEx.of (hgq) ?_ | refine SEx.of (map_get' (by omega) hm2) ?_ | refine yf rfl ?_ | refine yt rfl ?_ | refine yo rfl ?_ | refine yc rfl ?_ | refine ys rfl ?_ | refine ye rfl ?_ | refine yn rfl ?_ | refine zw ?_ | refine zdt ?_ | refine zdf ?_ | refine znt ?_ | refine znf ?_ | refine zcd ?_ | refine zci ?_ | refine zc3 ?_) <;> (conv => whnf)))
                  exact hR2 (L2.length - (k2 + 1)) _ _ (by omega) ⟨k2 + 1, hh, lc, by omega, rfl, n1, n2, n3, n4, hlc1, hlc2, (by repeat (first | exact Fr.le_nil | refine Fr.le_cons rfl ?_)), rfl⟩
                | some c2 =>
                  obtain ⟨hb1, hb2, hb3⟩ := hbt
                  have hgq : (Q.map amR)[0 + ((k2 : Nat) : Int).toNat]? = some [.b m2.rep, .i .i64 m2.who, .ms (.g c2) 1 0 m2.b.length] := hgq
                  have hsame : ∀ K : V → Heap → Prop, K (.b true) hh → ACall P 27 [.agg [.b m2.rep, .i .i64 m2.who, .ms (.g c2) 1 0 m2.b.length], .agg (mailR m2)] hh K := fun K => hsame K
                  ((conv => whnf); repeat ((first | refine SIf.dt (by omega) ?_ | refine SChk.ix (by omega) (by omega) ?_ | refine SChk.mk (decide_eq_true (by omega)) ?_ | refine SCall.app (hsame _) ?_ | refine SEx.of (hrow) ?_ | refine SEx.of (hgq) ?_ | refine SEx.of (map_get' (by omega) hm2) ?_ | refine yf rfl ?_ | refine yt rfl ?_ | refine yo rfl ?_ | refine yc rfl ?_ | refine ys rfl ?_ | refine ye rfl ?_ | refine yn rfl ?_ | refine zw ?_ | refine zdt ?_ | refine zdf ?_ | refine znt ?_ | refine znf ?_ | refine zcd ?_ | refine zci ?_ | refine zc3 ?_) <;> (conv => whnf)))
                  refine SLoopV.by (fun q fr st => ∃ (j : Nat) (hj : Heap) (b' : List Int), j ≤ m2.b.length ∧ q = m2.b.length - j ∧ b'.length = m2.b.length ∧ Heap.Keeps (fun n => some c2 = some n) hh hj ∧ hj.get c2 = some (.arr 1 (b'.map byR)) ∧
                      Fr.le [(160, .i .i64 j), (159, .i .i64 m2.b.length), (14, .i .i64 k2), (141, .i .i64 k2), (140, .i .i64 Q.length), (13, .ms (.g c) 3 0 Q.length), (8, .i .i64 i), (7, .sl (some (.l (lo.next + 1 + 1 + 1))) 3 (L2.map mailR)), (6, .p (.g 0) 0), (1, .sl none 6 (ops.map nopR)), (0, .i .i64 M)] fr ∧ st = ⟨hj, lc⟩)
                    m2.b.length ⟨0, hh, m2.b, Nat.zero_le _, rfl, rfl, .refl _ _, hb3, (by repeat (first | exact Fr.le_nil | refine Fr.le_cons rfl ?_)), rfl⟩ ?_
                  rintro q3 fr3 st3 ⟨j, hj, b', hjl, rfl, hbl', hkj, hgj, hle3, rfl⟩
                  refine ⟨_, hle3, fun R3 hR3 => ?_⟩
                  obtain ⟨n1, n2, n3, n4⟩ := hnext hj hkj
                  have hm2l : m2.b.length ≤ 30 := hroom2 m2 (List.mem_of_getElem? hm2)
                  have hbm : (b'.map byR).length = m2.b.length := by simpa using hbl'
                  by_cases hjL : j < m2.b.length
                  · have hx := List.getElem?_eq_getElem (show j < b'.length by omega)
                    generalize b'[j] = x at hx
                    have hgx : (b'.map byR)[0 + ((j : Nat) : Int).toNat]? = some [.i .u8 x] := by rw [Nat.zero_add, Int.toNat_natCast, List.getElem?_map, hx]; rfl
                    ((conv => whnf); repeat ((first | refine SIf.dt (by omega) ?_ | refine SChk.ix (by omega) (by omega) ?_ | refine SChk.mk (decide_eq_true (by omega)) ?_ | refine SChk.mk (decide_eq_true (by omega)) ?_ | refine SEx.of (n3) ?_ | refine SEx.of (hgq) ?_ | refine SEx.of (hgj) ?_ | refine SEx.of (hgx) ?_ | refine yf rfl ?_ | refine yt rfl ?_ | refine yo rfl ?_ | refine yc rfl ?_ | refine ys rfl ?_ | refine ye rfl ?_ | refine yn rfl ?_ | refine zw ?_ | refine zdt ?_ | refine zdf ?_ | refine znt ?_ | refine znf ?_ | refine zcd ?_ | refine zci ?_ | refine zc3 ?_) <;> (conv => whnf)))
                    refine SWrap.mk ?_
                    generalize IntKind.u8.wrap (x + 1) = y
                    have hset : ((b'.map byR).set (0 + ((j : Nat) : Int).toNat) [.i .u8 y]) = (b'.set j y).map byR := by rw [Nat.zero_add, Int.toNat_natCast, List.map_set]; rfl
                    ((conv => whnf); repeat ((first | refine SIf.dt (by omega) ?_ | refine SChk.ix (by omega) (by omega) ?_ | refine SChk.mk (decide_eq_true (by omega)) ?_ | refine SWrap.w64 (by omega) (by omega) ?_ | refine SEx.of (n3) ?_ | refine SEx.of (hgq) ?_ | refine SEx.of (hgj) ?_ | refine SEx.of (hgx) ?_ | refine yf rfl ?_ | refine yt rfl ?_ | refine yo rfl ?_ | refine yc rfl ?_ | refine ys rfl ?_ | refine ye rfl ?_ | refine yn rfl ?_ | refine zw ?_ | refine zdt ?_ | refine zdf ?_ | refine znt ?_ | refine znf ?_ | refine zcd ?_ | refine zci ?_ | refine zc3 ?_) <;> (conv => whnf)))
                    have hkj2 : Heap.Keeps (fun n => some c2 = some n) hh (hj.set c2 (.arr 1 ((b'.set j y).map byR))) := Heap.Keeps.set hkj (.inl rfl) _
                    have hst : hj.set c2 (.arr 1 ((b'.map byR).set (0 + ((j : Nat) : Int).toNat) [.i .u8 y])) = hj.set c2 (.arr 1 ((b'.set j y).map byR)) := by rw [hset]
                    refine hR3 (m2.b.length - (j + 1)) _ _ (by omega) ⟨j + 1, hj.set c2 (.arr 1 ((b'.set j y).map byR)), b'.set j y, by omega, rfl, by simpa using hbl', hkj2, Heap.get_set_self hgj, (by repeat (first | exact Fr.le_nil | refine Fr.le_cons rfl ?_)), ?_⟩
                    exact congrArg (fun x => (⟨x, lc⟩ : St)) hst
                  · ((conv => whnf); repeat ((first | refine SIf.df (by omega) ?_ | refine SWrap.w64 (by omega) (by omega) ?_ | refine yf rfl ?_ | refine yt rfl ?_ | refine yo rfl ?_ | refine yc rfl ?_ | refine ys rfl ?_ | refine ye rfl ?_ | refine yn rfl ?_ | refine zw ?_ | refine zdt ?_ | refine zdf ?_ | refine znt ?_ | refine znf ?_ | refine zcd ?_ | refine zci ?_ | refine zc3 ?_) <;> (conv => whnf)))
                    exact hR2 (L2.length - (k2 + 1)) _ _ (by omega) ⟨k2 + 1, hj, lc, by omega, rfl, n1, n2, n3, n4, hlc1, hlc2, (by repeat (first | exact Fr.le_nil | refine Fr.le_cons rfl ?_)), rfl⟩
              · ((conv => whnf); repeat ((first | refine SIf.df (by omega) ?_ | refine SWrap.w64 (by omega) (by omega) ?_ | refine yf rfl ?_ | refine yt rfl ?_ | refine yo rfl ?_ | refine yc rfl ?_ | refine ys rfl ?_ | refine ye rfl ?_ | refine yn rfl ?_ | refine zw ?_ | refine zdt ?_ | refine zdf ?_ | refine znt ?_ | refine znf ?_ | refine zcd ?_ | refine zci ?_ | refine zc3 ?_) <;> (conv => whnf)))
                exact hR (60 - (i + 1)) _ _ (by omega) ⟨i + 1, L2, hh, lc, _, rfl, by omega, hL2, hroom2, hat2.keep hkk, .inr ⟨_, rfl, hlc1, hlc2⟩, (by repeat (first | exact Fr.le_nil | refine Fr.le_cons rfl ?_)), rfl⟩

          · rw [hkp] at hat2
            have hat2 : NetAt h2 0 M L := hat2
            ((conv => whnf); repeat ((first | refine SIf.ff (by rw [hkp]; rfl) ?_ | refine SChk.ix (by omega) (by omega) ?_ | refine SCall.app (hsm _) ?_ | refine SEx.of (map_get' (by omega) he) ?_ | refine SEx.of (a1 _) ?_ | refine SEx.of (a2 _ _) ?_ | refine SEx.of (a3 _ _ _) ?_ | refine SEx.of (a4 _ _ _ _ _) ?_ | refine SEx.of (a5 _ _ _ _) ?_ | refine SEx.of (a6 _ _ _ _ _) ?_ | refine SEx.of (ht2) ?_ | refine SEx.of (a7 _ _ _) ?_ | refine SEx.of (a8 _ _ _ _ _) ?_ | refine SEx.of (a9 _ _ _ _) ?_ | refine SEx.of (map_get' (by omega) hmk) ?_ | refine yf rfl ?_ | refine yt rfl ?_ | refine yo rfl ?_ | refine yc rfl ?_ | refine ys rfl ?_ | refine ye rfl ?_ | refine yn rfl ?_ | refine zw ?_ | refine zdt ?_ | refine zdf ?_ | refine znt ?_ | refine znf ?_ | refine zcd ?_ | refine zci ?_ | refine zc3 ?_) <;> (conv => whnf)))
            obtain ⟨L2, hL2e⟩ : ∃ L2 : List MailD, L2 = L := ⟨_, rfl⟩
            have hLe : L.map mailR = L2.map mailR := by rw [hL2e]
            have hat2 : NetAt h2 0 M L2 := by rw [hL2e]; exact hat2
            have hroom2 : ∀ m ∈ L2, m.b.length ≤ 30 := by rw [hL2e]; exact hroom
            have hL2 : L2.length ≤ i + 1 := by rw [hL2e]; omega
            have hne2 : L2 ≠ [] := by rw [hL2e]; exact hL0
            rw [hLe]
            have hlm2 : (L2.map mailR).length = L2.length := List.length_map _
            have hpos2 : 0 < L2.length := List.length_pos_iff.2 hne2
            have hall := fun K => all_at (K := K) hG hcl hal hat2 (by omega) (fun m hm => by have := hroom2 m hm; omega)
            ((conv => whnf); repeat ((first | refine SCall.app (hall _) ?_ | refine SEx.of (map_get' (by omega) he) ?_ | refine SEx.of (a1 _) ?_ | refine SEx.of (a2 _ _) ?_ | refine SEx.of (a3 _ _ _) ?_ | refine SEx.of (a4 _ _ _ _ _) ?_ | refine SEx.of (a5 _ _ _ _) ?_ | refine SEx.of (a6 _ _ _ _ _) ?_ | refine SEx.of (ht2) ?_ | refine SEx.of (a7 _ _ _) ?_ | refine SEx.of (a8 _ _ _ _ _) ?_ | refine SEx.of (a9 _ _ _ _) ?_ | refine yf rfl ?_ | refine yt rfl ?_ | refine yo rfl ?_ | refine yc rfl ?_ | refine ys rfl ?_ | refine ye rfl ?_ | refine yn rfl ?_ | refine zw ?_ | refine zdt ?_ | refine zdf ?_ | refine znt ?_ | refine znf ?_ | refine zcd ?_ | refine zci ?_ | refine zc3 ?_) <;> (conv => whnf)))
            intro lv Q h3 hQ hA hk3
            have hQl : Q.length = L2.length := by simpa using congrArg List.length hQ
            have hQm : (Q.map amR).length = L2.length := by simpa using hQl
            have hat3 : NetAt h3 0 M L2 := hat2.keep (hk3.mono fun _ _ x => x.elim)
            have hlen3 := fun K => len_at (K := K) hG hat3
            rcases hA.row with ⟨hQ0, _⟩ | ⟨c, hlv, hc1, hc2, hcq, hc3⟩
            · subst hQ0
              exact absurd hQl.symm (by simp; exact hne2)
            subst hlv
            ((conv => whnf); repeat ((first | refine SCall.app (hlen3 _) ?_ | refine SIf.nf (by omega) ?_ | refine SIf.ff (by simp; omega) ?_ | refine SEx.of (map_get' (by omega) he) ?_ | refine SEx.of (a1 _) ?_ | refine SEx.of (a2 _ _) ?_ | refine SEx.of (a3 _ _ _) ?_ | refine SEx.of (a4 _ _ _ _ _) ?_ | refine SEx.of (a5 _ _ _ _) ?_ | refine SEx.of (a6 _ _ _ _ _) ?_ | refine SEx.of (ht2) ?_ | refine SEx.of (a7 _ _ _) ?_ | refine SEx.of (a8 _ _ _ _ _) ?_ | refine SEx.of (a9 _ _ _ _) ?_ | refine yf rfl ?_ | refine yt rfl ?_ | refine yo rfl ?_ | refine yc rfl ?_ | refine ys rfl ?_ | refine ye rfl ?_ | refine yn rfl ?_ | refine zw ?_ | refine zdt ?_ | refine zdf ?_ | refine znt ?_ | refine znf ?_ | refine zcd ?_ | refine zci ?_ | refine zc3 ?_) <;> (conv => whnf)))
            refine SLoopV.by (fun q fr st => ∃ (k : Nat) (hh lc : Heap), k ≤ L2.length ∧ q = L2.length - k ∧ Heap.Keeps (fun n => h2.next ≤ n) h2 hh ∧ c < hh.next ∧ hh.get c = some (.arr 3 (Q.map amR)) ∧ (∀ j q, k ≤ j → Q[j]? = some q → BAt hh h2.next q.1.b q.2) ∧ t < lc.next ∧ lc.get (t) = some .spare ∧
                Fr.le [(141, .i .i64 k), (140, .i .i64 Q.length), (13, .ms (.g c) 3 0 Q.length), (8, .i .i64 i), (7, .sl (some (.l (t))) 3 (L2.map mailR)), (6, .p (.g 0) 0), (1, .sl none 6 (ops.map nopR)), (0, .i .i64 M)] fr ∧ st = ⟨hh, lc⟩)
              L2.length ⟨0, h3, _, Nat.zero_le _, rfl, hk3.mono (fun _ _ x => x.elim), hc2, hc3, (fun j q _ hq => hA.its q (List.mem_of_getElem? hq)), (show t < lo.next + 1 + 1 by omega), (by repeat (first | exact (a8 _ _ _ _ _) | exact Heap.get_push_self _ _ | refine Heap.gs (by first | omega | (show _ ≠ lo.next + 1; omega) | (show _ ≠ lo.next + 1 + 1; omega) | (show _ ≠ lo.next + 1 + 1 + 1; omega)) ?_ | refine Heap.gp (by first | omega | (show _ ≠ lo.next + 1; omega) | (show _ ≠ lo.next + 1 + 1; omega) | (show _ ≠ lo.next + 1 + 1 + 1; omega)) ?_ | refine Heap.gr (by first | omega | (show _ ≠ lo.next + 1; omega) | (show _ ≠ lo.next + 1 + 1; omega) | (show _ ≠ lo.next + 1 + 1 + 1; omega)) ?_)), (by repeat (first | exact Fr.le_nil | refine Fr.le_cons rfl ?_)), rfl⟩ ?_
            rintro q2 fr2 st2 ⟨k2, hh, lc, hkl, rfl, hkk, hch, hrow, hits, hlc1, hlc2, hle2, rfl⟩
            refine ⟨_, hle2, fun R2 hR2 => ?_⟩
            by_cases hkL : k2 < L2.length
            · have hm2 := List.getElem?_eq_getElem hkL
              generalize L2[k2] = m2 at hm2
              obtain ⟨o2, hq2⟩ : ∃ o2, Q[k2]? = some (m2, o2) := by
                have h5 : (Q.map Prod.fst)[k2]? = some m2 := by rw [hQ]; exact hm2
                rw [List.getElem?_map] at h5
                obtain ⟨⟨a, b⟩, h6, h7⟩ := Option.map_eq_some_iff.1 h5
                dsimp only at h7
                subst h7
                exact ⟨b, h6⟩
              have hbt := hits k2 _ (Nat.le_refl _) hq2
              have hsame := fun K => same_at (K := K) hG (BVal.of hbt)
              have hgq : (Q.map amR)[0 + ((k2 : Nat) : Int).toNat]? = some (amR (m2, o2)) := by rw [Nat.zero_add, Int.toNat_natCast, List.getElem?_map, hq2]; rfl
              have hnext : ∀ hj : Heap, Heap.Keeps (fun n => o2 = some n) hh hj → Heap.Keeps (fun n => h2.next ≤ n) h2 hj ∧ c < hj.next ∧ hj.get c = some (.arr 3 (Q.map amR)) ∧ ∀ j q, k2 + 1 ≤ j → Q[j]? = some q → BAt hj h2.next q.1.b q.2 := by
                intro hj hkj
                have hn := hkj.1
                refine ⟨hkk.trans (hkj.mono fun n _ e => ?_), by omega, ?_, fun j q hjk hq => ?_⟩
                · rw [e] at hbt; exact hbt.1
                · rw [hkj.2 c (hch) (fun e => hcq _ (List.mem_of_getElem? hq2) e)]
                  exact hrow
                · have h5 := hits j q (by omega) hq
                  cases hqo : q.2 with
                  | none => rw [hqo] at h5; exact h5
                  | some c' =>
                    rw [hqo] at h5
                    obtain ⟨h6, h7, h8⟩ := h5
                    refine ⟨h6, by omega, ?_⟩
                    rw [hkj.2 c' h7 (fun e => ?_)]
                    · exact h8
                    · rcases pair_get hA.inj (show k2 < j by omega) hq2 hq with h9 | h9
                      · have h10 : o2 = none := h9
                        rw [h10] at e; cases e
                      · exact h9 (e.trans hqo.symm)
              cases o2 with
              | none =>
                obtain ⟨n1, n2, n3, n4⟩ := hnext hh (.refl _ _)
                ((conv => whnf); repeat ((first | refine SIf.dt (by omega) ?_ | refine SChk.ix (by omega) (by omega) ?_ | refine SChk.mk (decide_eq_true (by omega)) ?_ | refine SCall.app (hsame _) ?_ | refine SLoopV.un rfl ?_ | refine SWrap.w64 (by omega) (by omega) ?_ | refine SEx.of (hrow) ?_ | refine SEx.of (hgq) ?_ | refine SEx.of (map_get' (by omega) hm2) ?_ | refine yf rfl ?_ | refine yt rfl ?_ | refine yo rfl ?_ | refine yc rfl ?_ | refine ys rfl ?_ | refine ye rfl ?_ | refine yn rfl ?_ | refine zw ?_ | refine zdt ?_ | refine zdf ?_ | refine znt ?_ | refine znf ?_ | refine zcd ?_ | refine zci ?_ | refine zc3 ?_) <;> (conv => whnf)))
                exact hR2 (L2.length - (k2 + 1)) _ _ (by omega) ⟨k2 + 1, hh, lc, by omega, rfl, n1, n2, n3, n4, hlc1, hlc2, (by repeat (first | exact Fr.le_nil | refine Fr.le_cons rfl ?_)), rfl⟩
              | some c2 =>
                obtain ⟨hb1, hb2, hb3⟩ := hbt
                have hgq : (Q.map amR)[0 + ((k2 : Nat) : Int).toNat]? = some [.b m2.rep, .i .i64 m2.who, .ms (.g c2) 1 0 m2.b.length] := hgq
                have hsame : ∀ K : V → Heap → Prop, K (.b true) hh → ACall P 27 [.agg [.b m2.rep, .i .i64 m2.who, .ms (.g c2) 1 0 m2.b.length], .agg (mailR m2)] hh K := fun K => hsame K
                ((conv => whnf); repeat ((first | refine SIf.dt (by omega) ?_ | refine SChk.ix (by omega) (by omega) ?_ | refine SChk.mk (decide_eq_true (by omega)) ?_ | refine SCall.app (hsame _) ?_ | refine SEx.of (hrow) ?_ | refine SEx.of (hgq) ?_ | refine SEx.of (map_get' (by omega) hm2) ?_ | refine yf rfl ?_ | refine yt rfl ?_ | refine yo rfl ?_ | refine yc rfl ?_ | refine ys rfl ?_ | refine ye rfl ?_ | refine yn rfl ?_ | refine zw ?_ | refine zdt ?_ | refine zdf ?_ | refine znt ?_ | refine znf ?_ | refine zcd ?_ | refine zci ?_ | refine zc3 ?_) <;> (conv => whnf)))
                refine SLoopV.by (fun q fr st => ∃ (j : Nat) (hj : Heap) (b' : List Int), j ≤ m2.b.length ∧ q = m2.b.length - j ∧ b'.length = m2.b.length ∧ Heap.Keeps (fun n => some c2 = some n) hh hj ∧ hj.get c2 = some (.arr 1 (b'.map byR)) ∧
                    Fr.le [(160, .i .i64 j), (159, .i .i64 m2.b.length), (14, .i .i64 k2), (141, .i .i64 k2), (140, .i .i64 Q.length), (13, .ms (.g c) 3 0 Q.length), (8, .i .i64 i), (7, .sl (some (.l (t))) 3 (L2.map mailR)), (6, .p (.g 0) 0), (1, .sl none 6 (ops.map nopR)), (0, .i .i64 M)] fr ∧ st = ⟨hj, lc⟩)
                  m2.b.length ⟨0, hh, m2.b, Nat.zero_le _, rfl, rfl, .refl _ _, hb3, (by repeat (first | exact Fr.le_nil | refine Fr.le_cons rfl ?_)), rfl⟩ ?_
                rintro q3 fr3 st3 ⟨j, hj, b', hjl, rfl, hbl', hkj, hgj, hle3, rfl⟩
                refine ⟨_, hle3, fun R3 hR3 => ?_⟩
                obtain ⟨n1, n2, n3, n4⟩ := hnext hj hkj
                have hm2l : m2.b.length ≤ 30 := hroom2 m2 (List.mem_of_getElem? hm2)
                have hbm : (b'.map byR).length = m2.b.length := by simpa using hbl'
                by_cases hjL : j < m2.b.length
                · have hx := List.getElem?_eq_getElem (show j < b'.length by omega)
                  generalize b'[j] = x at hx
                  have hgx : (b'.map byR)[0 + ((j : Nat) : Int).toNat]? = some [.i .u8 x] := by rw [Nat.zero_add, Int.toNat_natCast, List.getElem?_map, hx]; rfl
                  ((conv => whnf); repeat ((first | refine SIf.dt (by omega) ?_ | refine SChk.ix (by omega) (by omega) ?_ | refine SChk.mk (decide_eq_true (by omega)) ?_ | refine SChk.mk (decide_eq_true (by omega)) ?_ | refine SEx.of (n3) ?_ | refine SEx.of (hgq) ?_ | refine SEx.of (hgj) ?_ | refine SEx.of (hgx) ?_ | refine yf rfl ?_ | refine yt rfl ?_ | refine yo rfl ?_ | refine yc rfl ?_ | refine ys rfl ?_ | refine ye rfl ?_ | refine yn rfl ?_ | refine zw ?_ | refine zdt ?_ | refine zdf ?_ | refine znt ?_ | refine znf ?_ | refine zcd ?_ | refine zci ?_ | refine zc3 ?_) <;> (conv => whnf)))
                  refine SWrap.mk ?_
                  generalize IntKind.u8.wrap (x + 1) = y
                  have hset : ((b'.map byR).set (0 + ((j : Nat) : Int).toNat) [.i .u8 y]) = (b'.set j y).map byR := by rw [Nat.zero_add, Int.toNat_natCast, List.map_set]; rfl
                  ((conv => whnf); repeat ((first | refine SIf.dt (by omega) ?_ | refine SChk.ix (by omega) (by omega) ?_ | refine SChk.mk (decide_eq_true (by omega)) ?_ | refine SWrap.w64 (by omega) (by omega) ?_ | refine SEx.of (n3) ?_ | refine SEx.of (hgq) ?_ | refine SEx.of (hgj) ?_ | refine SEx.of (hgx) ?_ | refine yf rfl ?_ | refine yt rfl ?_ | refine yo rfl ?_ | refine yc rfl ?_ | refine ys rfl ?_ | refine ye rfl ?_ | refine yn rfl ?_ | refine zw ?_ | refine zdt ?_ | refine zdf ?_ | refine znt ?_ | refine znf ?_ | refine zcd ?_ | refine zci ?_ | refine zc3 ?_) <;> (conv => whnf)))
                  have hkj2 : Heap.Keeps (fun n => some c2 = some n) hh (hj.set c2 (.arr 1 ((b'.set j y).map byR))) := Heap.Keeps.set hkj (.inl rfl) _
                  have hst : hj.set c2 (.arr 1 ((b'.map byR).set (0 + ((j : Nat) : Int).toNat) [.i .u8 y])) = hj.set c2 (.arr 1 ((b'.set j y).map byR)) := by rw [hset]
                  refine hR3 (m2.b.length - (j + 1)) _ _ (by omega) ⟨j + 1, hj.set c2 (.arr 1 ((b'.set j y).map byR)), b'.set j y, by omega, rfl, by simpa using hbl', hkj2, Heap.get_set_self hgj, (by repeat (first | exact Fr.le_nil | refine Fr.le_cons rfl ?_)), ?_⟩
                  exact congrArg (fun x => (⟨x, lc⟩ : St)) hst
                · ((conv => whnf); repeat ((first | refine SIf.df (by omega) ?_ | refine SWrap.w64 (by omega) (by omega) ?_ | refine yf rfl ?_ | refine yt rfl ?_ | refine yo rfl ?_ | refine yc rfl ?_ | refine ys rfl ?_ | refine ye rfl ?_ | refine yn rfl ?_ | refine zw ?_ | refine zdt ?_ | refine zdf ?_ | refine znt ?_ | refine znf ?_ | refine zcd ?_ | refine zci ?_ | refine zc3 ?_) <;> (conv => whnf)))
                  exact hR2 (L2.length - (k2 + 1)) _ _ (by omega) ⟨k2 + 1, hj, lc, by omega, rfl, n1, n2, n3, n4, hlc1, hlc2, (by repeat (first | exact Fr.le_nil | refine Fr.le_cons rfl ?_)), rfl⟩
            · ((conv => whnf); repeat ((first | refine SIf.df (by omega) ?_ | refine SWrap.w64 (by omega) (by omega) ?_ | refine yf rfl ?_ | refine yt rfl ?_ | refine yo rfl ?_ | refine yc rfl ?_ | refine ys rfl ?_ | refine ye rfl ?_ | refine yn rfl ?_ | refine zw ?_ | refine zdt ?_ | refine zdf ?_ | refine znt ?_ | refine znf ?_ | refine zcd ?_ | refine zci ?_ | refine zc3 ?_) <;> (conv => whnf)))
              exact hR (60 - (i + 1)) _ _ (by omega) ⟨i + 1, L2, hh, lc, _, rfl, by omega, hL2, hroom2, hat2.keep hkk, .inr ⟨_, rfl, hlc1, hlc2⟩, (by repeat (first | exact Fr.le_nil | refine Fr.le_cons rfl ?_)), rfl⟩
  · have h6 : ¬ i < ops.length ∨ (i < ops.length ∧ ¬ i < 60) := by omega
    rcases hw with ⟨rfl, rfl⟩ | ⟨t, rfl, ht1, ht2⟩
    all_goals
      rcases h6 with h1 | ⟨h1, h2⟩
      all_goals
        ((conv => whnf); repeat ((first | refine yf rfl ?_ | refine yt rfl ?_ | refine yo rfl ?_ | refine yc rfl ?_ | refine ys rfl ?_ | refine ye rfl ?_ | refine yn rfl ?_ | refine zw ?_ | refine zdt ?_ | refine zdf ?_ | refine znt ?_ | refine znf ?_ | refine zcd ?_ | refine zci ?_ | refine zc3 ?_) <;> (conv => whnf)))
end
end Go.Eng
