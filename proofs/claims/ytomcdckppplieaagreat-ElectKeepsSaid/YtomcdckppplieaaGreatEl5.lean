/-
ElectKeeps: whoever is answered in time leads on and on, by a new revision each time.
-/
import Derived.Test.YtomcdckppplieaaGreatEl3
import Derived.Test.YtomcdckppplieaaGreatSt3
import Derived.Test.YtomcdckppplieaaGreatArgsN
import Derived.Test.YtomcdckppplieaaGreatAfK
set_option linter.unusedVariables false
set_option linter.unusedSimpArgs false
namespace Go.Eng
open Go
theorem StoreAt.other {h h' : Heap} {a m0 m1 g c n : Nat} {rev : Int} {cur : CurD} (hs : StoreAt h a m0 m1 g c rev cur n) {but : Nat → Prop} (hk : Heap.Keeps but h h') (hb : ∀ j, owns a m0 m1 g c j → ¬ but j) : StoreAt h' a m0 m1 g c rev cur n := by
  obtain ⟨l1, l2, l3⟩ := hs.lt
  obtain ⟨rd, wr, ga⟩ := hs.ga
  obtain ⟨x, g1⟩ := hs.g1
  obtain ⟨last, hl, hg⟩ := hs.log
  have hn := hk.next
  exact ⟨⟨by omega, by omega, by omega⟩, hs.ne, ⟨rd, wr, (hk.same a l1 (hb a (.inl rfl))).trans ga⟩, (hk.same m0 l2 (hb m0 (.inr (.inl rfl)))).trans hs.g0, ⟨x, (hk.same m1 l3 (hb m1 (.inr (.inr (.inl rfl))))).trans g1⟩,
    last, hl, hg.keep hn (hk.same g hg.1 (hb g (.inr (.inr (.inr (.inl rfl)))))) (hk.same c hg.2.1 (hb c (.inr (.inr (.inr (.inr rfl))))))⟩
def E0 : ElD := ⟨4, true, false, 0, 0, 0, 0, false, 0, 0, 0⟩
inductive KeepsI : Nat → Int → Int → ElD → Int → CurD → Nat → Prop where
  | zero : KeepsI 0 0 0 E0 0 none 0
  | more {i n : Nat} {now last rev since : Int} {b : List Int} (hi : 0 < i) (hr : rev = n) (h1 : 1 ≤ rev) (hn : n ≤ i) (h2 : 0 ≤ last) (h3 : last ≤ now) (h4 : now ≤ 500 * i) (h5 : now - last ≤ 799) (h6 : 0 ≤ since ∧ since ≤ now) :
    KeepsI i now last ⟨4, true, true, rev, 4, 1000, since, false, last, rev, last⟩ rev (some (rev, b)) n
theorem KeepsI.next {i n : Nat} {now rev since d : Int} {b : List Int} (hr : rev = n) (h1 : 1 ≤ rev) (hn : n ≤ i + 1) (h2 : 0 ≤ now) (h4 : now ≤ 500 * i) (h6 : 0 ≤ since ∧ since ≤ now) (hd : 1 ≤ d ∧ d ≤ 500) :
    KeepsI (i + 1) (now + d) now ⟨4, true, true, rev, 4, 1000, since, false, now, rev, now⟩ rev (some (rev, b)) n :=
  .more (Nat.succ_pos _) hr h1 hn h2 (by omega) (by omega) (by omega) ⟨h6.1, by omega⟩
section
variable {P : Program} (hG : FnsOk P AF.fns.get)
include hG
set_option maxHeartbeats 16000000 in
set_option maxRecDepth 20000 in
theorem electKeeps_ok (hk : okFn P 4 AF.ek = true) (hA : AddAt P) (hb : ACall P 7 [] noG (fun r _ => r = .b true)) (ss : List Int) (hl : ss.length ≤ 9223372036854775807) :
    ACall P 4 [.sl none 1 (ss.map numR)] noG (fun r _ => r = .b true) := by
  have hlm : (ss.map numR).length = ss.length := List.length_map _
  refine fn_sp hk rfl ?_
  ((conv => whnf); repeat ((first | refine yf rfl ?_ | refine yt rfl ?_ | refine yo rfl ?_ | refine yc rfl ?_ | refine ys rfl ?_ | refine ye rfl ?_ | refine yn rfl ?_ | refine zw ?_ | refine zdt ?_ | refine zdf ?_ | refine znt ?_ | refine znf ?_ | refine zcd ?_ | refine zci ?_ | refine zc3 ?_) <;> (conv => whnf)))
  refine ⟨hb.frame rfl fun v h' hv => ?_⟩
  subst hv
  refine ⟨rfl, ?_⟩
  ((conv => whnf); repeat ((first | refine SCall.app (fn_sp (hG _ _ rfl) rfl) ?_ | refine yf rfl ?_ | refine yt rfl ?_ | refine yo rfl ?_ | refine yc rfl ?_ | refine ys rfl ?_ | refine ye rfl ?_ | refine yn rfl ?_ | refine zw ?_ | refine zdt ?_ | refine zdf ?_ | refine znt ?_ | refine znf ?_ | refine zcd ?_ | refine zci ?_ | refine zc3 ?_) <;> (conv => whnf)))
  refine SLoop.by (fun q fr st => ∃ (i cnt c : Nat) (now last rev : Int) (e : ElD) (cur : CurD) (h l : Heap), i ≤ 40 ∧ q = 40 - i ∧ KeepsI i now last e rev cur cnt ∧ c ≠ 4 ∧ 4 < h.next ∧ StoreAt h 3 0 1 2 c rev cur cnt ∧ h.get 4 = some (.cs (electR e)) ∧
      Fr.le [(8, .i .i64 i), (7, .i .i64 last), (6, .i .i64 now), (5, .p (.g 4) 0), (4, .p (.g 3) 0), (0, .sl none 1 (ss.map numR))] fr ∧ st = ⟨h, l⟩)
    40 ⟨0, 0, 2, 0, 0, 0, E0, none, _, _, by omega, rfl, .zero, by decide, by decide, ⟨⟨by decide, by decide, by decide⟩, ⟨by decide, by decide, by decide, by decide, by decide, by decide, by decide, by decide, by decide⟩, ⟨0, 0, rfl⟩, rfl, ⟨none, rfl⟩, 0, Int.le_refl _, by decide, by decide, 0, .inl ⟨rfl, rfl, rfl⟩⟩, rfl, (by repeat (first | exact Fr.le_nil | refine Fr.le_cons rfl ?_)), rfl⟩ ?_
  rintro q fr st ⟨i, cnt, c, now, last, rev, e, cur, h, l, hi, rfl, hkp, hc4, h4n, hst, hel, hle0, rfl⟩
  refine ⟨_, hle0, fun R hR => ?_⟩
  have hown : ∀ c', c' ≠ 4 → ∀ j, owns 3 0 1 2 c' j → ¬ j = 4 := fun c' hc j hj => by
    rcases hj with rfl | rfl | rfl | rfl | rfl <;> first | decide | exact hc
  by_cases hin : i < ss.length ∧ i < 40
  · obtain ⟨hi1, hi2⟩ := hin
    have he := List.getElem?_eq_getElem hi1
    generalize ss[i] = s at he
    obtain ⟨d1, hd1⟩ : ∃ d1, (if (500 : Int) < s then 500 else s) = d1 := ⟨_, rfl⟩
    obtain ⟨d, hd⟩ : ∃ d, (if 1 < d1 then d1 else 1) = d := ⟨_, rfl⟩
    have hdb : 1 ≤ d ∧ d ≤ 500 := by
      by_cases c1 : 500 < s
      · rw [if_pos c1] at hd1
        subst hd1
        rw [if_pos (by decide)] at hd
        omega
      · rw [if_neg c1] at hd1
        subst hd1
        by_cases c2 : 1 < s
        · rw [if_pos c2] at hd
          omega
        · rw [if_neg c2] at hd
          omega
    have htime : TimeOk now ∧ TimeOk last ∧ now ≤ 500 * i := by
      unfold TimeOk
      cases hkp <;> omega
    obtain ⟨ht1, ht2, hnow⟩ := htime
    have hcnt : cnt < 64 ∧ 0 ≤ rev ∧ rev ≤ 40 ∧ rev = cnt ∧ e.rev = rev ∧ curRev cur = rev ∧ cnt ≤ i := by
      cases hkp with
      | zero => exact ⟨by decide, by decide, by decide, rfl, rfl, rfl, Nat.le_refl _⟩
      | more h0 hr h1 hn => exact ⟨by omega, by omega, by omega, hr, rfl, rfl, hn⟩
    obtain ⟨hc64, hr0, hr40, hrc, her, hcr, hci⟩ := hcnt
    have hout : e.out = false := by cases hkp <;> rfl
    have hme : e.me = (4 : Nat) := by cases hkp <;> rfl
    have heok : e.ok := by
      cases hkp
      · exact ⟨⟨by decide, by decide⟩, ⟨by decide, by decide⟩, ⟨by decide, by decide⟩, ⟨by decide, by decide⟩⟩
      · unfold TimeOk at ht1 ht2
        exact ⟨by unfold TimeOk; dsimp only; omega, by unfold TimeOk; dsimp only; omega, by unfold TimeOk; dsimp only; omega, ⟨show (0 : Int) ≤ 1000 by decide, show (1000 : Int) ≤ 1000 by decide⟩⟩
    have hdue := due_ok hG now last ht1 ht2
    have hW : wantsE e now = (decide ((i : Int) = 0) || decide (300 ≤ now - last)) := by
      cases hkp with
      | zero => rfl
      | @more _ _ _ _ _ since b h0 hr h1 hn h2 h3 h4 h5 h6 =>
        have hL : leadsE ⟨4, true, true, rev, 4, 1000, since, false, last, rev, last⟩ now = true := by
          unfold leadsE
          rw [decide_eq_true (show 0 < rev by omega), decide_eq_true (show now < last + 900 by omega)]; rfl
        unfold wantsE
        rw [hL, decide_eq_false (show ¬ ((i : Int) = 0) by omega)]
        rfl
    by_cases hw : wantsE e now = true
    · have hwant := fun (K : V → Heap → Prop) (hK : ∀ h', h'.get 4 = some (.cs (electR { e with out := true, sent := now })) → Heap.Keeps (fun j => j = 4) h h' → K (.tup [txnV e.rev (leaseB e.me), .b true]) h') =>
        want_at hG hel heok ht1 4 hme (by decide) (K := K) (fun h' e' _ hor _ => by
          rcases hor with ⟨_, h1⟩ | ⟨_, h1⟩
          · rw [hout] at h1; cases h1
          · rw [hw] at h1; cases h1) (fun _ _ => hK)
      have htxn := fun (h1 : Heap) (hs1 : StoreAt h1 3 0 1 2 c rev cur cnt) (K : V → Heap → Prop) (hK : ∀ h' c', StoreAt h' 3 0 1 2 c' (rev + 1) (some (rev + 1, leaseB e.me)) (cnt + 1) → (c' = c ∨ h1.next ≤ c') → Heap.Keeps (owns 3 0 1 2 c) h1 h' → K (.tup [.i .i64 (rev + 1), .i .i64 0]) h') =>
        txn_at hG hA hs1 e.rev (leaseB e.me) (by omega) (by show 10 ≤ 4000; decide) ⟨hr0, by omega⟩ hc64 (K := K) (fun h => absurd (hcr.trans her.symm) h) (fun _ => hK)
      have hcase : (i : Int) = 0 ∨ (¬ (i : Int) = 0 ∧ Pure P 21 [.i .i64 now, .i .i64 last] (· = .b true)) := by
        by_cases hi0 : (i : Int) = 0
        · exact .inl hi0
        · rw [hW, decide_eq_false hi0, Bool.false_or] at hw
          rw [hw] at hdue
          exact .inr ⟨hi0, hdue⟩
      have htold := fun (h2 : Heap) (e2 : ElD) (he2 : h2.get 4 = some (.cs (electR e2))) (ho2 : e2.out = true) (K : V → Heap → Prop) => told_at hG he2 ho2 now (rev + 1) (K := K)
      rcases hcase with hi0 | ⟨hi0, hdue2⟩
      all_goals
        ((conv => whnf); repeat ((first | refine SCall.app (hwant _) ?_ | refine SEx.of (map_get' (by omega) he) ?_ | refine yf rfl ?_ | refine yt rfl ?_ | refine yo rfl ?_ | refine yc rfl ?_ | refine ys rfl ?_ | refine ye rfl ?_ | refine yn rfl ?_ | refine zw ?_ | refine zdt ?_ | refine zdf ?_ | refine znt ?_ | refine znf ?_ | refine zcd ?_ | refine zci ?_ | refine zc3 ?_) <;> (conv => whnf)))
        intro h1 h1e k1
        have hs1 := hst.other k1 (fun j hj => hown c hc4 j hj)
        have hn1 := k1.next
        ((conv => whnf); repeat ((first | refine SCall.app (Pure.go hdue2 rfl) ?_ | refine SCall.app (htxn h1 hs1 _) ?_ | refine SEx.of (Heap.get_push_self _ _) ?_ | refine SEx.of (Heap.get_set_self (Heap.get_push_self _ _)) ?_ | refine yf rfl ?_ | refine yt rfl ?_ | refine yo rfl ?_ | refine yc rfl ?_ | refine ys rfl ?_ | refine ye rfl ?_ | refine yn rfl ?_ | refine zw ?_ | refine zdt ?_ | refine zdf ?_ | refine znt ?_ | refine znf ?_ | refine zcd ?_ | refine zci ?_ | refine zc3 ?_) <;> (conv => whnf)))
        intro h2 c2 hs2 hc2 k2
        have hn2 := k2.next
        have h2e := (k2.same 4 (by omega) (fun hj => hown c hc4 4 hj rfl)).trans h1e
        ((conv => whnf); repeat ((first | refine SCall.app (htold h2 _ h2e rfl _) ?_ | refine yf rfl ?_ | refine yt rfl ?_ | refine yo rfl ?_ | refine yc rfl ?_ | refine ys rfl ?_ | refine ye rfl ?_ | refine yn rfl ?_ | refine zw ?_ | refine zdt ?_ | refine zdf ?_ | refine znt ?_ | refine znf ?_ | refine zcd ?_ | refine zci ?_ | refine zc3 ?_) <;> (conv => whnf)))
        intro h3 h3e k3
        have he3 : toldOk { e with out := true, sent := now } now (rev + 1) = ⟨4, true, true, rev + 1, 4, 1000, now, false, now, rev + 1, now⟩ := by simp only [toldOk, hme]; rfl
        rw [he3] at h3e
        have hs3 := hs2.other k3 (fun j hj => hown c2 (by omega) j hj)
        have hn3 := k3.next
        have ht3 := fun K => term_at hG (K := K) h3e
        unfold TimeOk at ht1
        have hl3 := fun K => eleads_at hG h3e ⟨ht1, ht1, ht1, ⟨show (0 : Int) ≤ 1000 by decide, show (1000 : Int) ≤ 1000 by decide⟩⟩ (now := now) ht1 (K := K)
        have hL : leadsE ⟨4, true, true, rev + 1, 4, 1000, now, false, now, rev + 1, now⟩ now = true := by
          unfold leadsE
          rw [decide_eq_true (show 0 < rev + 1 by omega), decide_eq_true (show now < now + 900 by omega)]; rfl
        rw [hL] at hl3
        ((conv => whnf); repeat ((first | refine SCall.app (ht3 _) ?_ | refine SIf.nf rfl ?_ | refine SCall.app (hl3 _) ?_ | refine SOpt.of (mn2 hd1) ?_ | refine SOpt.of (mx2 hd) ?_ | refine SEx.of (map_get' (by omega) he) ?_ | refine yf rfl ?_ | refine yt rfl ?_ | refine yo rfl ?_ | refine yc rfl ?_ | refine ys rfl ?_ | refine ye rfl ?_ | refine yn rfl ?_ | refine zw ?_ | refine zdt ?_ | refine zdf ?_ | refine znt ?_ | refine znf ?_ | refine zcd ?_ | refine zci ?_ | refine zc3 ?_) <;> (conv => whnf)))
        exact hR (40 - (i + 1)) _ _ (by omega) ⟨i + 1, cnt + 1, c2, now + d, now, rev + 1, _, some (rev + 1, leaseB e.me), h3, _, by omega, rfl, .next (by omega) (by omega) (by omega) (by omega) (by omega) ⟨by omega, Int.le_refl _⟩ hdb, by omega, by omega, hs3, h3e, (by repeat (first | exact Fr.le_nil | refine Fr.le_cons rfl ?_)), rfl⟩
    · have hwf : wantsE e now = false := by simpa using hw
      rw [hW, Bool.or_eq_false_iff] at hwf
      have hi0 : ¬ (i : Int) = 0 := of_decide_eq_false hwf.1
      have hlt : ¬ 300 ≤ now - last := of_decide_eq_false hwf.2
      rw [decide_eq_false hlt] at hdue
      have hwant := fun (K : V → Heap → Prop) (hK : ∀ h', h'.get 4 = some (.cs (electR e)) → Heap.Keeps (fun j => j = 4) h h' → K (.tup [.agg [.nils, .nils], .b false]) h') =>
        want_at hG hel heok ht1 4 hme (by decide) (K := K) (fun h' e' hg hor hk => by
          rcases hor with ⟨_, h1⟩ | ⟨h1, _⟩
          · rw [hout] at h1; cases h1
          · refine hK h' ?_ hk
            rw [hg, h1]
            obtain ⟨me, seen, there, rv, holder, dur, since, out, sent, term, frm⟩ := e
            dsimp only at hout
            rw [hout]) (fun h => absurd h hw)
      ((conv => whnf); repeat ((first | refine SCall.app (hwant _) ?_ | refine SEx.of (map_get' (by omega) he) ?_ | refine yf rfl ?_ | refine yt rfl ?_ | refine yo rfl ?_ | refine yc rfl ?_ | refine ys rfl ?_ | refine ye rfl ?_ | refine yn rfl ?_ | refine zw ?_ | refine zdt ?_ | refine zdf ?_ | refine znt ?_ | refine znf ?_ | refine zcd ?_ | refine zci ?_ | refine zc3 ?_) <;> (conv => whnf)))
      intro h1 h1e k1
      have hs1 := hst.other k1 (fun j hj => hown c hc4 j hj)
      have hn1 := k1.next
      have hl3 := fun K => eleads_at hG h1e heok (now := now) ht1 (K := K)
      have hkp2 : leadsE e now = true ∧ KeepsI (i + 1) (now + d) last e rev cur cnt := by
        cases hkp with
        | zero => exact absurd rfl hi0
        | more h0 hr h1 hn h2 h3 h4 h5 h6 =>
          refine ⟨?_, .more (Nat.succ_pos _) hr h1 (by omega) h2 (by omega) (by omega) (by omega) ⟨h6.1, by omega⟩⟩
          unfold leadsE
          rw [decide_eq_true (show 0 < rev by omega), decide_eq_true (show now < last + 900 by omega)]; rfl
      rw [hkp2.1] at hl3
      unfold TimeOk at ht1
      ((conv => whnf); repeat ((first | refine SCall.app (Pure.go hdue rfl) ?_ | refine SCall.app (hl3 _) ?_ | refine SOpt.of (mn2 hd1) ?_ | refine SOpt.of (mx2 hd) ?_ | refine SEx.of (map_get' (by omega) he) ?_ | refine SEx.of (Heap.get_push_self _ _) ?_ | refine SEx.of (Heap.get_set_self (Heap.get_push_self _ _)) ?_ | refine yf rfl ?_ | refine yt rfl ?_ | refine yo rfl ?_ | refine yc rfl ?_ | refine ys rfl ?_ | refine ye rfl ?_ | refine yn rfl ?_ | refine zw ?_ | refine zdt ?_ | refine zdf ?_ | refine znt ?_ | refine znf ?_ | refine zcd ?_ | refine zci ?_ | refine zc3 ?_) <;> (conv => whnf)))
      exact hR (40 - (i + 1)) _ _ (by omega) ⟨i + 1, cnt, c, now + d, last, rev, e, cur, h1, _, by omega, rfl, hkp2.2, hc4, by omega, hs1, h1e, (by repeat (first | exact Fr.le_nil | refine Fr.le_cons rfl ?_)), rfl⟩
  · have h6 : ¬ i < ss.length ∨ (i < ss.length ∧ ¬ i < 40) := by omega
    have hterm := fun K => term_at hG (K := K) hel
    have hpos : ¬ (ss.length : Int) = 0 → decide (0 < e.term) = true := fun hne => by
      cases hkp with
      | zero => omega
      | more h0 hr h1 => exact decide_eq_true (by dsimp only; omega)
    rcases h6 with h1 | ⟨h1, h2⟩
    all_goals
      by_cases hs0 : (ss.length : Int) = 0
      · first
          | (exfalso; omega)
          | (((conv => whnf); repeat ((first | refine SCall.app (hterm _) ?_ | refine yf rfl ?_ | refine yt rfl ?_ | refine yo rfl ?_ | refine yc rfl ?_ | refine ys rfl ?_ | refine ye rfl ?_ | refine yn rfl ?_ | refine zw ?_ | refine zdt ?_ | refine zdf ?_ | refine znt ?_ | refine znf ?_ | refine zcd ?_ | refine zci ?_ | refine zc3 ?_) <;> (conv => whnf))))
      · ((conv => whnf); repeat ((first | refine SCall.app (hterm _) ?_ | refine yf rfl ?_ | refine yt rfl ?_ | refine yo rfl ?_ | refine yc rfl ?_ | refine ys rfl ?_ | refine ye rfl ?_ | refine yn rfl ?_ | refine zw ?_ | refine zdt ?_ | refine zdf ?_ | refine znt ?_ | refine znf ?_ | refine zcd ?_ | refine zci ?_ | refine zc3 ?_) <;> (conv => whnf)))
        exact congrArg V.b (hpos hs0)
end
end Go.Eng
