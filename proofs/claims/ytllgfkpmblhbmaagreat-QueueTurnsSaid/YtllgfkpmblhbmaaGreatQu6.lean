/-
QueueTurns: of several who wait each has its turn, the first ones first; who is parked has none until something is another one.
-/
import Derived.Test.YtllgfkpmblhbmaaGreatQu5
import Derived.Test.YtllgfkpmblhbmaaGreatWiQ
import Derived.Test.YtllgfkpmblhbmaaGreatEngSymV
set_option linter.unusedVariables false
set_option linter.unusedSimpArgs false
namespace Go.Eng
open Go
theorem two_get {lo : Heap} {x : Obj} (hlo : 0 < lo.next) (h : lo.get 0 = some x) (o o2 : Obj) : ((lo.push o).set lo.next o2).get 0 = some x := Heap.gs (by omega) (Heap.gp (by omega) h)
def bareP (p : PodD) : PodD := { p with node := [], term := 0 }
theorem bare_ok {p : PodD} (h : p.fit ∧ PodRoom p) : (bareP p).fit ∧ PodRoom (bareP p) := by
  obtain ⟨⟨⟨h1, h2, h3, h4, h5, h6⟩, h7⟩, ⟨r1, r2, r3, r4, r5, r6⟩⟩ := h
  exact ⟨⟨⟨h1, h2, h3, h4, h5, h6⟩, h7⟩, ⟨r1, r2, r3, r4, r5, r6⟩⟩
theorem srt_unlike {l : List PodD} (h : Srt l) : l.Pairwise fun a b => a.name ≠ b.name := List.Pairwise.imp (fun {a b} h => by
  intro e
  rw [lessS, e] at h
  rw [less_irr] at h
  cases h) h
theorem unlike_perm {l w : List PodD} (h : l.Pairwise fun a b => a.name ≠ b.name) (hp : w.Perm l) : w.Pairwise fun a b => a.name ≠ b.name :=
  (hp.pairwise_iff fun {a b} h => h.symm).2 h
theorem seek_done {w : List PodD} (hun : w.Pairwise fun a b => a.name ≠ b.name) (E : Bool) : w.map (seekQ (w.map doneQ) E) = w.map fun p => ⟨p, true && E, 1, 55⟩ := by
  have h1 : (w.map doneQ).map (·.p) = w := by
    rw [List.map_map]
    exact List.map_id _
  have h2 := seek_all (E := E) (its := w.map doneQ) (by rw [List.pairwise_map]; exact hun)
  rw [h1, List.map_map] at h2
  exact h2
theorem find_no {its : List OneD} {now : Int} (h : ∀ o ∈ its, turnD now o = false) : its.find? (turnD now) = none := by
  rw [List.find?_eq_none]
  intro o ho
  rw [h o ho]
  decide
section
variable {P : Program} (hG : FnsOk P AF.fns.get)
include hG
set_option maxHeartbeats 16000000 in
set_option maxRecDepth 20000 in
theorem queueTurns_some (hk : okFn P 7 AF.qt = true) (hI : InsOk P 64) (hb : ACall P 8 [] noG (fun r _ => r = .b true)) (ps : List PodD) (hl : LenOk ps) (hps : GoodL ps) (hne0 : ps ≠ []) :
    ACall P 7 [.sl none 16 (ps.map podR)] noG (fun r _ => r = .b true) := by
  have hlm : (ps.map podR).length = ps.length := List.length_map _
  unfold LenOk at hl
  refine fn_sv hk rfl ?_
  ((conv => whnf); repeat ((first | refine yf rfl ?_ | refine yt rfl ?_ | refine yo rfl ?_ | refine yc rfl ?_ | refine ys rfl ?_ | refine ye rfl ?_ | refine yn rfl ?_ | refine zw ?_ | refine zdt ?_ | refine zdf ?_ | refine znt ?_ | refine znf ?_ | refine zcd ?_ | refine zci ?_ | refine zc3 ?_) <;> (conv => whnf)))
  refine ⟨hb.frame rfl fun v h' hv => ?_⟩
  subst hv
  refine ⟨rfl, ?_⟩
  ((conv => whnf); repeat ((first | refine yf rfl ?_ | refine yt rfl ?_ | refine yo rfl ?_ | refine yc rfl ?_ | refine ys rfl ?_ | refine ye rfl ?_ | refine yn rfl ?_ | refine zw ?_ | refine zdt ?_ | refine zdf ?_ | refine znt ?_ | refine znf ?_ | refine zcd ?_ | refine zci ?_ | refine zc3 ?_) <;> (conv => whnf)))
  by_cases hps0 : ps = []
  · subst hps0
    exact absurd rfl hne0
  · have hpos : 0 < ps.length := List.length_pos_iff.2 hps0
    have he0 := List.getElem?_eq_getElem hpos
    have hm0 := hps _ (List.getElem_mem hpos)
    generalize ps[0] = e0 at he0 hm0
    have hb0 := bare_ok hm0
    have g0 : GoodL [] := fun q hq => by cases hq
    have hwi0 := with_ok0 hG hI ⟨[], []⟩ rfl (bareP e0) (Nat.zero_le _) (g0.ok (Nat.zero_le _)) (small0 []) (fun q hq => by cases hq) hb0.2 (show 0 * 248 + 1000 ≤ _ by decide)
    refine SLoopV.un rfl ?_
    ((conv => whnf); repeat ((first | refine SCall.app (Pure.call1 hwi0 (by ((repeat (first | exact trivial | refine ⟨by first | exact ce1_free rfl | exact .inl .nil | exact .inl .tok | exact .inl (.rows (by ((repeat (first | exact .nil | refine .cons (by ((repeat (first | exact .nil | refine .cons (by first | exact .refl _ | exact .nil _) ?_)); first | done | fail)) ?_)); first | done | fail))) | exact .inr (.inl ⟨_, _, rfl, rfl, (by ((repeat (first | exact trivial | refine ⟨by first | exact ce_flat rfl | exact .nil | exact .tok | exact .ren rfl (Nat.le_of_ble_eq_true rfl) | exact .rows (by ((repeat (first | exact .nil | refine .cons (by ((repeat (first | exact .nil | refine .cons (by first | exact .refl _ | exact .nil _) ?_)); first | done | fail)) ?_)); first | done | fail)), ?_⟩)); first | done | fail))⟩), ?_⟩)); first | done | fail)) rfl) ?_ | refine SEx.of (map_get' rfl he0) ?_ | refine SEx.of (Heap.get_push_self _ _) ?_ | refine yf rfl ?_ | refine yt rfl ?_ | refine yo rfl ?_ | refine yc rfl ?_ | refine ys rfl ?_ | refine ye rfl ?_ | refine yn rfl ?_ | refine zw ?_ | refine zdt ?_ | refine zdf ?_ | refine znt ?_ | refine znf ?_ | refine zcd ?_ | refine zci ?_ | refine zc3 ?_) <;> (conv => whnf)))
    have hsrt0 : Srt [bareP e0] := List.pairwise_singleton _ _
    refine SLoopV.by (fun q fr st => ∃ (i : Nat) (l : List PodD) (lo : Heap), 0 < i ∧ i ≤ ps.length ∧ i ≤ 10 ∧ q = 10 - i ∧ l ≠ [] ∧ l.length ≤ i ∧ GoodL l ∧ Srt l ∧ (∀ p ∈ l, p.node = []) ∧ 0 < lo.next ∧ lo.get 0 = some (.cs [.nils, .sl none 16 (l.map podR)]) ∧
        Fr.le [(5, .i .i64 i), (4, .p (.l 0) 0), (0, .sl none 16 (ps.map podR))] fr ∧ st = ⟨noG, lo⟩)
      9 ⟨1, [bareP e0], _, by decide, by omega, by decide, rfl, by simp, Nat.le_refl _, (fun q hq => by rw [List.mem_singleton.1 hq]; exact hb0), hsrt0, (fun p hp => by rw [List.mem_singleton.1 hp]; rfl), Nat.zero_lt_succ _, rfl, (by repeat (first | exact Fr.le_nil | refine Fr.le_cons rfl ?_)), rfl⟩ ?_
    rintro q fr st ⟨i, l, lo, hi0, hi, hi10, rfl, hlne, hil, hgood, hsrt, hnode, hlo, hl0, hle0, rfl⟩
    refine ⟨_, hle0, fun R hR => ?_⟩
    by_cases hin : i < ps.length ∧ i < 10
    · obtain ⟨hi1, hi2⟩ := hin
      have he := List.getElem?_eq_getElem hi1
      have hm := hps _ (List.getElem_mem hi1)
      generalize ps[i] = e at he hm
      have hb1 := bare_ok hm
      have hwi : ∀ (h : Heap) (K : V → Heap → Prop), K (.agg [.nils, .sl none 16 ((putL l (bareP e)).map podR)]) h → ACall P 18 [.agg [.nils, .sl none 16 (l.map podR)], .agg (podR (bareP e))] h K := fun h K hK =>
        Pure.call1 (with_ok0 hG hI ⟨[], l⟩ rfl (bareP e) (Nat.zero_le _) (hgood.ok (by omega)) (small0 l) (fun q hq => (hgood q hq).2) hb1.2 (show l.length * 248 + 1000 ≤ _ by omega)) (by ((repeat (first | exact trivial | refine ⟨by first | exact ce1_free rfl | exact .inl .nil | exact .inl .tok | exact .inl (.rows (by ((repeat (first | exact .nil | refine .cons (by ((repeat (first | exact .nil | refine .cons (by first | exact .refl _ | exact .nil _) ?_)); first | done | fail)) ?_)); first | done | fail))) | exact .inr (.inl ⟨_, _, rfl, rfl, (by ((repeat (first | exact trivial | refine ⟨by first | exact ce_flat rfl | exact .nil | exact .tok | exact .ren rfl (Nat.le_of_ble_eq_true rfl) | exact .rows (by ((repeat (first | exact .nil | refine .cons (by ((repeat (first | exact .nil | refine .cons (by first | exact .refl _ | exact .nil _) ?_)); first | done | fail)) ?_)); first | done | fail)), ?_⟩)); first | done | fail))⟩), ?_⟩)); first | done | fail)) rfl hK
      have p1 : ∀ o, (lo.push o).get 0 = some (.cs [.nils, .sl none 16 (l.map podR)]) := fun o => Heap.gp (by omega) hl0
      have h0n : (0 : Nat) ≠ lo.next := by omega
      have g1 : ∀ o, (lo.push o).get lo.next = some o := fun o => Heap.get_push_self _ o
      have g2 : ∀ o o2, ((lo.push o).set lo.next o2).get lo.next = some o2 := fun o o2 => Heap.get_set_self (g1 _)
      have g3 : ∀ o o2 o3, (((lo.push o).set lo.next o2).set lo.next o3).get lo.next = some o3 := fun o o2 o3 => Heap.get_set_self (g2 _ _)
      have g4 : ∀ o o2 o3 o4, ((((lo.push o).set lo.next o2).set lo.next o3).set lo.next o4).get lo.next = some o4 := fun o o2 o3 o4 => Heap.get_set_self (g3 _ _ _)
      have p4 : ∀ o o2 o3 o4, ((((lo.push o).set lo.next o2).set lo.next o3).set lo.next o4).get 0 = some (.cs [.nils, .sl none 16 (l.map podR)]) := fun o o2 o3 o4 => Heap.gs h0n (Heap.gs h0n (Heap.gs h0n (p1 _)))
      ((conv => whnf); repeat ((first | refine SCall.app (hwi _ _) ?_ | refine SEx.of (map_get' (by omega) he) ?_ | refine SEx.of (g1 _) ?_ | refine SEx.of (g2 _ _) ?_ | refine SEx.of (g3 _ _ _) ?_ | refine SEx.of (g4 _ _ _ _) ?_ | refine SEx.of (p4 _ _ _ _) ?_ | refine yf rfl ?_ | refine yt rfl ?_ | refine yo rfl ?_ | refine yc rfl ?_ | refine ys rfl ?_ | refine ye rfl ?_ | refine yn rfl ?_ | refine zw ?_ | refine zdt ?_ | refine zdf ?_ | refine znt ?_ | refine znf ?_ | refine zcd ?_ | refine zci ?_ | refine zc3 ?_) <;> (conv => whnf)))
      have hput := putL_len l (bareP e)
      refine hR (10 - (i + 1)) _ _ (by omega) ⟨i + 1, putL l (bareP e), _, Nat.succ_pos _, by omega, by omega, rfl, ?_, by omega, hgood.put hb1, putL_srt hsrt _, fun p hp => ?_, ?_, Heap.get_set_self (p4 _ _ _ _), (by repeat (first | exact Fr.le_nil | refine Fr.le_cons rfl ?_)), rfl⟩
      · intro hnil
        have := congrArg List.length hnil
        have hl1 := List.length_pos_iff.2 hlne
        simp only [List.length_nil] at this
        omega
      · rcases putL_mem hp with h | h
        · exact hnode p h
        · rw [h]; rfl
      · exact Nat.lt_succ_of_lt hlo
    · clear hR
      have h12 : ¬ i < ps.length ∨ (i < ps.length ∧ ¬ i < 10) := by omega
      have hlen : l.length ≤ 10 := by omega
      have hwo1 := wo_nil hG l hgood (by omega)
      have hpe1 := pe_nil hG l hgood (by omega)
      have heq1 := eq_nil hG l hgood (by omega)
      have hwo3 := wo_row hG l hgood (by omega)
      have hpe3 := pe_row hG l hgood (by omega)
      have heq3 := eq_row hG l
      have hperm : (pendL l).Perm l := by
        have := pendL_perm l
        rwa [List.filter_eq_self.2 (fun q hq => by rw [hnode q hq]; rfl)] at this
      have hun := unlike_perm (srt_unlike hsrt) hperm
      have hwgood : ∀ p ∈ pendL l, PodRoom p := fun p hp => (hgood p (hperm.mem_iff.1 hp)).2
      have hwlen := hperm.length_eq
      generalize pendL l = w at hpe1 hpe3 hperm hun hwgood hwlen
      have hwne : w ≠ [] := by
        rintro rfl
        exact hlne (List.length_eq_zero_iff.1 hwlen.symm)
      have hsync1 := fun (K : V → Heap → Prop) => sync_new hG (h := ⟨1, [(0, .cs [.nils, .nils, .nils, .b false])]⟩) (q := 0) (by decide) rfl ⟨[], l⟩ l hwo1 w (by omega) hpe1 (K := K)
      have hwl : (w.map podR).length = w.length := List.length_map _
      have hloop : ∀ (h1 : Heap) (ks1 : List Nat), QAt h1 0 ks1 (w.map (seekQ [] false)) ⟨[], l⟩ → QAt h1 0 ks1 (itsM w 0) ⟨[], l⟩ := fun _ _ h => h
      rcases h12 with h1 | ⟨h1, h2⟩
      all_goals
        ((conv => whnf); repeat ((first | refine SCall.app (fn_sv (hG _ AF.f25 rfl) rfl) ?_ | refine SCall.app (hsync1 _) ?_ | refine SEx.of (hl0) ?_ | refine yf rfl ?_ | refine yt rfl ?_ | refine yo rfl ?_ | refine yc rfl ?_ | refine ys rfl ?_ | refine ye rfl ?_ | refine yn rfl ?_ | refine zw ?_ | refine zdt ?_ | refine zdf ?_ | refine znt ?_ | refine znf ?_ | refine zcd ?_ | refine zci ?_ | refine zc3 ?_) <;> (conv => whnf)))
        intro hA ksA hqA
        ((conv => whnf); repeat ((first | refine SCall.app (hpe1 _ _) ?_ | refine SEx.of (hl0) ?_ | refine yf rfl ?_ | refine yt rfl ?_ | refine yo rfl ?_ | refine yc rfl ?_ | refine ys rfl ?_ | refine ye rfl ?_ | refine yn rfl ?_ | refine zw ?_ | refine zdt ?_ | refine zdf ?_ | refine znt ?_ | refine znf ?_ | refine zcd ?_ | refine zci ?_ | refine zc3 ?_) <;> (conv => whnf)))
        refine SLoopV.by (fun q fr st => ∃ (m : Nat) (h : Heap) (ks : List Nat) (lo : Heap), m ≤ w.length ∧ q = w.length - m ∧ QAt h 0 ks (itsM w m) ⟨[], l⟩ ∧ 0 < lo.next ∧ lo.get 0 = some (.cs [.nils, .sl none 16 (l.map podR)]) ∧
            Fr.le [(54, .i .i64 m), (53, .i .i64 (w.map podR).length), (52, .sl none 16 (w.map podR)), (8, .sl none 16 (w.map podR)), (7, .p (.g 0) 0), (4, .p (.l 0) 0)] fr ∧ st = ⟨h, lo⟩)
          w.length ⟨0, hA, ksA, lo, Nat.zero_le _, rfl, hloop _ _ hqA, hlo, hl0, (by repeat (first | exact Fr.le_nil | refine Fr.le_cons rfl ?_)), rfl⟩ ?_
        clear hloop hsync1 hqA hl0 hlo
        clear lo hA ksA
        rintro q fr st ⟨m, h, ks, lo, hm, rfl, hq, hlo, hl0, hle0, rfl⟩
        refine ⟨_, hle0, fun R hR => ?_⟩
        have hilen := itsM_len w m
        have hroom : ∀ o ∈ itsM w m, PodRoom o.p := fun o ho => hwgood _ (by rw [← itsM_p w m]; exact List.mem_map.2 ⟨o, ho, rfl⟩)
        by_cases hmw : m < w.length
        · obtain ⟨x, hx⟩ : ∃ x, w[m]? = some x := ⟨_, List.getElem?_eq_getElem hmw⟩
          have hnext := fun (K : V → Heap → Prop) (hK : K (.tup [.agg (podR x), .b true]) h) => next_at hG hq (by omega) hroom 5 (K := K) (by rw [itsM_find hx]; exact hK)
          have hfail := fun (K : V → Heap → Prop) (hK : ∀ h', QAt h' 0 ks (itsM w (m + 1)) ⟨[], l⟩ → K (.tup []) h') => failed_at hG hq (by omega) x.name (itsM_get hx) rfl (uniq_at (by rw [itsM_p]; exact hun) (itsM_get hx)) (K := K) (fun h' hh => hK h' (by rw [← itsM_set hx]; exact hh))
          have hxx : (!(x.name == x.name)) = false := by simp
          have g1 : ∀ o, (lo.push o).get lo.next = some o := fun o => Heap.get_push_self _ o
          have g2 : ∀ o o2, ((lo.push o).set lo.next o2).get lo.next = some o2 := fun o o2 => Heap.get_set_self (g1 _)
          have g3 : ∀ o o2 o3, (((lo.push o).set lo.next o2).push o3).get (lo.next + 1) = some o3 := fun o o2 o3 => Heap.get_push_self _ _
          have g4 : ∀ o o2 o3 o4, ((((lo.push o).set lo.next o2).push o3).set (lo.next + 1) o4).get (lo.next + 1) = some o4 := fun o o2 o3 o4 => Heap.get_set_self (g3 _ _ _)
          have g5 : ∀ o o2 o3 o4, ((((lo.push o).set lo.next o2).push o3).set (lo.next + 1) o4).get lo.next = some o2 := fun o o2 o3 o4 => Heap.gs (by omega) (Heap.gp (show lo.next ≠ lo.next + 1 by omega) (g2 _ _))
          ((conv => whnf); repeat ((first | refine SCall.app (hnext _) ?_ | refine SIf.ff hxx ?_ | refine SCall.app (hfail _) ?_ | refine SEx.of (map_get' (by omega) hx) ?_ | refine SEx.of (g1 _) ?_ | refine SEx.of (g2 _ _) ?_ | refine SEx.of (g3 _ _ _) ?_ | refine SEx.of (g4 _ _ _ _) ?_ | refine SEx.of (g5 _ _ _ _) ?_ | refine yf rfl ?_ | refine yt rfl ?_ | refine yo rfl ?_ | refine yc rfl ?_ | refine ys rfl ?_ | refine ye rfl ?_ | refine yn rfl ?_ | refine zw ?_ | refine zdt ?_ | refine zdf ?_ | refine znt ?_ | refine znf ?_ | refine zcd ?_ | refine zci ?_ | refine zc3 ?_) <;> (conv => whnf)))
          intro h' hq'
          ((conv => whnf); repeat ((first | refine yf rfl ?_ | refine yt rfl ?_ | refine yo rfl ?_ | refine yc rfl ?_ | refine ys rfl ?_ | refine ye rfl ?_ | refine yn rfl ?_ | refine zw ?_ | refine zdt ?_ | refine zdf ?_ | refine znt ?_ | refine znf ?_ | refine zcd ?_ | refine zci ?_ | refine zc3 ?_) <;> (conv => whnf)))
          exact hR (w.length - (m + 1)) _ _ (by omega) ⟨m + 1, h', ks, _, by omega, rfl, hq', Nat.succ_pos _, two_get (Nat.succ_pos _) (two_get hlo hl0 _ _) _ _, (by repeat (first | exact Fr.le_nil | refine Fr.le_cons rfl ?_)), rfl⟩
        · clear hR
          rw [itsM_all w (by omega)] at hq hilen hroom
          have hn1 := fun (K : V → Heap → Prop) (hK : K (.tup [.agg zeroQ, .b false]) h) => next_at hG hq (by omega) hroom 1099511627776 (K := K) (by
            rw [find_no (fun o ho => by obtain ⟨p, _, rfl⟩ := List.mem_map.1 ho; rfl)]; exact hK)
          have hdue := fun K => due_at hG hq (by omega) (fun o ho => by obtain ⟨p, _, rfl⟩ := List.mem_map.1 ho; rfl) 5 (K := K)
          have hdne : w.map doneQ ≠ [] := fun e => hwne (List.map_eq_nil_iff.1 e)
          have hkl2 : ∀ {h : Heap} {ks : List Nat}, QAt h 0 ks (w.map doneQ) ⟨[], l⟩ → ks.length ≤ 1000 := fun hq => by
            have := hq.its.len
            rw [List.length_map] at this
            omega
          obtain ⟨c, hc1, hc2, hc3, hc4⟩ := hq.ms hdne
          have hsync2 := fun (K : V → Heap → Prop) (hK : ∀ h' ks', QAt h' 0 ks' (w.map doneQ) ⟨[], l⟩ → K (.tup []) h') => sync_again hG hq.lt hc1 hc2 hc3 hc4 hq.its (hkl2 hq) ⟨[], l⟩ true l heq1 hwo1 w (by omega) hpe1 (K := K) (fun h' ks' hh => hK h' ks' (by rw [seek_done hun] at hh; exact hh))
          have t1 : ∀ o o2, ((lo.push o).set lo.next o2).get 0 = some (.cs [.nils, .sl none 16 (l.map podR)]) := fun o o2 => two_get hlo hl0 o o2
          ((conv => whnf); repeat ((first | refine SCall.app (hn1 _) ?_ | refine SCall.app (hdue _) ?_ | refine SCall.app (hsync2 _) ?_ | refine SEx.of (Heap.get_push_self _ _) ?_ | refine SEx.of (t1 _ _) ?_ | refine yf rfl ?_ | refine yt rfl ?_ | refine yo rfl ?_ | refine yc rfl ?_ | refine ys rfl ?_ | refine ye rfl ?_ | refine yn rfl ?_ | refine zw ?_ | refine zdt ?_ | refine zdf ?_ | refine znt ?_ | refine znf ?_ | refine zcd ?_ | refine zci ?_ | refine zc3 ?_) <;> (conv => whnf)))
          intro h2 ks2 hq2
          have hilen2 : (w.map doneQ).length ≤ 1000 := by omega
          have hn2 := fun (K : V → Heap → Prop) (hK : K (.tup [.agg zeroQ, .b false]) h2) => next_at hG hq2 hilen2 hroom 1099511627776 (K := K) (by
            rw [find_no (fun o ho => by obtain ⟨p, _, rfl⟩ := List.mem_map.1 ho; rfl)]; exact hK)
          obtain ⟨c2, hd1, hd2, hd3, hd4⟩ := hq2.ms hdne
          have hsync3 := fun (K : V → Heap → Prop) (hK : ∀ h' ks', QAt h' 0 ks' (w.map waitQ) ⟨[newN], l⟩ → K (.tup []) h') => sync_other hG hq2.lt hd1 hd2 hd3 hd4 hq2.its (hkl2 hq2) ⟨[newN], l⟩ false [newRow] l heq3 hwo3 w (by omega) hpe3 (K := K) (fun h' ks' hh => hK h' ks' (by rw [seek_done hun] at hh; exact hh))
          have l1 : ∀ o o2, 0 < ((lo.push o).set lo.next o2).next := fun o o2 => Nat.succ_pos _
          have t2 : ∀ o o2 o3 o4, ((((lo.push o).set lo.next o2).push o3).set (lo.next + 1) o4).get 0 = some (.cs [.nils, .sl none 16 (l.map podR)]) := fun o o2 o3 o4 => two_get (l1 o o2) (t1 o o2) o3 o4
          have t3 : ∀ o o2 o3 o4 o5 o6, ((((((lo.push o).set lo.next o2).push o3).set (lo.next + 1) o4).push o5).push o6).get 0 = some (.cs [.nils, .sl none 16 (l.map podR)]) := fun o o2 o3 o4 o5 o6 => Heap.gp (Nat.succ_ne_zero _).symm (Heap.gp (Nat.succ_ne_zero _).symm (t2 _ _ _ _))
          have t4 : ∀ o o2 o3 o4 o5 o6 o7, (((((((lo.push o).set lo.next o2).push o3).set (lo.next + 1) o4).push o5).push o6).set 0 o7).get 0 = some o7 := fun o o2 o3 o4 o5 o6 o7 => Heap.get_set_self (t3 _ _ _ _ _ _)
          ((conv => whnf); repeat ((first | refine SCall.app (hn2 _) ?_ | refine SCall.app (hsync3 _) ?_ | refine SEx.of (Heap.get_push_self _ _) ?_ | refine SEx.of (t2 _ _ _ _) ?_ | refine SEx.of (t3 _ _ _ _ _ _) ?_ | refine SEx.of (t4 _ _ _ _ _ _ _) ?_ | refine yf rfl ?_ | refine yt rfl ?_ | refine yo rfl ?_ | refine yc rfl ?_ | refine ys rfl ?_ | refine ye rfl ?_ | refine yn rfl ?_ | refine zw ?_ | refine zdt ?_ | refine zdf ?_ | refine znt ?_ | refine znf ?_ | refine zcd ?_ | refine zci ?_ | refine zc3 ?_) <;> (conv => whnf)))
          intro h3 ks3 hq3
          have hroom3 : ∀ o ∈ w.map waitQ, PodRoom o.p := fun o ho => by obtain ⟨p, hp, rfl⟩ := List.mem_map.1 ho; exact hwgood p hp
          have hilen3 : (w.map waitQ).length ≤ 1000 := by rw [List.length_map]; omega
          have hn3 := fun (K : V → Heap → Prop) (hK : K (.tup [.agg zeroQ, .b false]) h3) => next_at hG hq3 hilen3 hroom3 54 (K := K) (by
            rw [find_no (fun o ho => by obtain ⟨p, _, rfl⟩ := List.mem_map.1 ho; rfl)]; exact hK)
          obtain ⟨w0, hw0⟩ : ∃ w0, w[0]? = some w0 := ⟨_, List.getElem?_eq_getElem (List.length_pos_iff.2 hwne)⟩
          have hn4 := fun (K : V → Heap → Prop) (hK : K (.tup [.agg (podR w0), .b true]) h3) => next_at hG hq3 hilen3 hroom3 55 (K := K) (by
            have : (w.map waitQ).find? (turnD 55) = some (waitQ w0) := by
              cases w with
              | nil => exact absurd rfl hwne
              | cons a r => cases hw0; rfl
            rw [this]; exact hK)
          have hdec : decide ((0 : Int) < ((w.map podR).length : Int)) = true := decide_eq_true (by have := List.length_pos_iff.2 hwne; omega)
          have hww : (w0.name == w0.name) = true := by simp
          have hix : idxOk 0 (w.map podR).length = true := by have := List.length_pos_iff.2 hwne; unfold idxOk; rw [decide_eq_true (Int.le_refl 0), decide_eq_true (by omega)]; rfl
          ((conv => whnf); repeat ((first | refine SCall.app (hn3 _) ?_ | refine SCall.app (hn4 _) ?_ | refine SIf.tt (by rw [hdec]; rfl) ?_ | refine SIf.ff (by rw [hdec]; rfl) ?_ | refine SChk.mk hix ?_ | refine SEx.of (Heap.get_push_self _ _) ?_ | refine SEx.of (Heap.get_set_self (Heap.get_push_self _ _)) ?_ | refine SEx.of (map_get' rfl hw0) ?_ | refine yf rfl ?_ | refine yt rfl ?_ | refine yo rfl ?_ | refine yc rfl ?_ | refine ys rfl ?_ | refine ye rfl ?_ | refine yn rfl ?_ | refine zw ?_ | refine zdt ?_ | refine zdf ?_ | refine znt ?_ | refine znf ?_ | refine zcd ?_ | refine zci ?_ | refine zc3 ?_) <;> (conv => whnf)))
          all_goals first | exact congrArg V.b hww | rfl | trace_state
end
end Go.Eng
