/-
The queue: it learns anew who waits.
-/
import Derived.Test.YtllgfkpmblhbmaaGreatQu4
set_option linter.unusedVariables false
set_option linter.unusedSimpArgs false
namespace Go.Eng
open Go
section
variable {P : Program} (hG : FnsOk P AF.fns.get)
include hG
set_option maxHeartbeats 16000000 in
set_option maxRecDepth 20000 in
theorem sync_other {h : Heap} {q c : Nat} {ks : List Nat} {its : List OneD} {s0 : StD} (hqn : q < h.next) (hq : h.get q = some (.cs (qC (.ms (.g c) 1 0 ks.length) s0))) (hcq : c ≠ q) (hcn : c < h.next) (hc : h.get c = some (.arr 1 (ks.map kR))) (hit : ItsAt h q ks its) (hkl1000 : ks.length ≤ 1000)
    (s : StD) (E : Bool) (rows : List (List V)) (pl : List PodD) (heq : ∀ (h : Heap) (K : V → Heap → Prop), K (.b E) h → ACall P 76 [.agg [.sl none 6 rows, .sl none 16 (pl.map podR)], stV s0] h K) (hwo : ∀ (h : Heap) (K : V → Heap → Prop), K (stV s) h → ACall P 24 [.agg [.sl none 6 rows, .sl none 16 (pl.map podR)], .nils] h K) (w : List PodD) (hw1000 : w.length ≤ 1000) (hpe : ∀ (h : Heap) (K : V → Heap → Prop), K (.sl none 16 (w.map podR)) h → ACall P 27 [.agg [.sl none 6 rows, .sl none 16 (pl.map podR)]] h K) {K : V → Heap → Prop}
    (hK : ∀ h' ks', QAt h' q ks' (w.map (seekQ its E)) s → K (.tup []) h') : ACall P 26 [.p (.g q) 0, .agg [.sl none 6 rows, .sl none 16 (pl.map podR)]] h K := by
  have hwl : (w.map podR).length = w.length := List.length_map _
  have s1 : ∀ o, (h.set q o).get q = some o := fun o => Heap.get_set_self hq
  have s2 : ∀ o1 o2, ((h.set q o1).set q o2).get q = some o2 := fun o1 o2 => Heap.get_set_self (s1 _)
  have s3 : ∀ o1 o2 o3, (((h.set q o1).set q o2).set q o3).get q = some o3 := fun o1 o2 o3 => Heap.get_set_self (s2 _ _)
  have hin0 := fun o1 o2 => SyncI.init (h := h) (h1 := ((h.set q o1).set q o2).set q (.cs (qC .nils s))) (q := q) (s := s) rfl (s3 _ _ _) fun j hj => (Heap.get_set_ne hj).trans ((Heap.get_set_ne hj).trans (Heap.get_set_ne hj))
  refine fn_sp (hG _ AF.f26 rfl) rfl ?_
  ((conv => whnf); repeat ((first | refine SCall.app (hwo _ _) ?_ | refine SCall.app (hpe _ _) ?_ | refine SCall.app (heq _ _) ?_ | refine SEx.of (hq) ?_ | refine SEx.of (s1 _) ?_ | refine SEx.of (s2 _ _) ?_ | refine SEx.of (s3 _ _ _) ?_ | refine yf rfl ?_ | refine yt rfl ?_ | refine yo rfl ?_ | refine yc rfl ?_ | refine ys rfl ?_ | refine ye rfl ?_ | refine yn rfl ?_ | refine zw ?_ | refine zdt ?_ | refine zdf ?_ | refine znt ?_ | refine znf ?_ | refine zcd ?_ | refine zci ?_ | refine zc3 ?_) <;> (conv => whnf)))
  refine SLoop.by (fun n fr st => ∃ (i : Nat) (h' l : Heap) (ks' : List Nat) (lv' : V), i ≤ w.length ∧ n = w.length - i ∧ SyncI h q s ((w.take i).map (seekQ its E)) h' ks' lv' ∧
      Fr.le [(45, .i .i64 i), (44, .i .i64 (w.map podR).length), (43, .sl none 16 (w.map podR)), (5, (.ms (.g c) 1 0 ks.length)), (4, .b (!E)), (0, .p (.g q) 0)] fr ∧ st = ⟨h', l⟩)
    w.length ⟨0, _, _, [], .nils, Nat.zero_le _, rfl, hin0 _ _, (by repeat (first | exact Fr.le_nil | refine Fr.le_cons rfl ?_)), rfl⟩ ?_
  rintro n fr st ⟨i, h', l, ks', lv', hi, rfl, hI, hle0, rfl⟩
  refine ⟨_, hle0, fun R hR => ?_⟩
  have hkn := hI.keeps.next
  by_cases hin : i < w.length
  · have he := List.getElem?_eq_getElem hin
    generalize w[i] = p at he
    have hsnoc : (w.take (i + 1)).map (seekQ its E) = (w.take i).map (seekQ its E) ++ [seekQ its E p] := by rw [take_succ' he, List.map_append]; rfl
    ((conv => whnf); repeat ((first | refine SEx.of (map_get' (by omega) he) ?_ | refine SEx.of (Heap.get_push_self _ _) ?_ | refine SEx.of (Heap.get_set_self (Heap.get_push_self _ _)) ?_ | refine yf rfl ?_ | refine yt rfl ?_ | refine yo rfl ?_ | refine yc rfl ?_ | refine ys rfl ?_ | refine ye rfl ?_ | refine yn rfl ?_ | refine zw ?_ | refine zdt ?_ | refine zdf ?_ | refine znt ?_ | refine znf ?_ | refine zcd ?_ | refine zci ?_ | refine zc3 ?_) <;> (conv => whnf)))
    refine SLoop.by (fun n fr st => ∃ (m : Nat) (h2 l2 : Heap), m ≤ ks.length ∧ n = ks.length - m ∧ h2.next = h'.next + 1 ∧ (∀ j, j < h'.next → h2.get j = h'.get j) ∧ h2.get h'.next = some (.cs (oneR ((its.take m).foldl (stepQ p E) ⟨p, false, 0, 0⟩))) ∧ l2.get l.next = some (.cs (podR p)) ∧
        Fr.le [(54, .i .i64 m), (53, .i .i64 ks.length), (52, .ms (.g c) 1 0 ks.length), (8, .p (.g h'.next) 0), (7, .p (.l l.next) 0), (45, .i .i64 i), (44, .i .i64 (w.map podR).length), (43, .sl none 16 (w.map podR)), (5, .ms (.g c) 1 0 ks.length), (4, .b (!E)), (0, .p (.g q) 0)] fr ∧ st = ⟨h2, l2⟩)
      ks.length ⟨0, _, _, Nat.zero_le _, rfl, rfl, fun j hj => Heap.get_push_ne (by omega), Heap.get_push_self _ _, Heap.get_set_self (Heap.get_push_self _ _), (by repeat (first | exact Fr.le_nil | refine Fr.le_cons rfl ?_)), rfl⟩ ?_
    rintro n fr st ⟨m, h2, l2, hm, rfl, gn, gs, gk, gl, hle1, rfl⟩
    refine ⟨_, hle1, fun R' hR' => ?_⟩
    have hlen := hit.len
    have hkl0 : (ks.map kR).length = ks.length := List.length_map _
    have hc2' := (gs c (by omega)).trans ((hI.keeps.same c hcn hcq).trans hc)
    by_cases hin1 : m < ks.length
    · obtain ⟨kx, hkx⟩ : ∃ k, ks[m]? = some k := ⟨_, List.getElem?_eq_getElem hin1⟩
      obtain ⟨x, hx⟩ : ∃ o, its[m]? = some o := ⟨_, List.getElem?_eq_getElem (by omega)⟩
      obtain ⟨hxq, hxn, hxo⟩ := hit.it m kx x hkx hx
      have hx2 := (gs kx (by omega)).trans ((hI.keeps.same kx hxn hxq).trans hxo)
      have hfold : (its.take (m + 1)).foldl (stepQ p E) ⟨p, false, 0, 0⟩ = stepQ p E ((its.take m).foldl (stepQ p E) ⟨p, false, 0, 0⟩) x := by rw [take_succ' hx, List.foldl_append]; rfl
      have hap := seek_p (E := E) (p := p) (its.take m) ⟨p, false, 0, 0⟩ rfl
      generalize (its.take m).foldl (stepQ p E) ⟨p, false, 0, 0⟩ = acc at hfold hap gk
      obtain ⟨ap, apk, af, at_⟩ := acc
      dsimp only at hap
      subst hap
      by_cases hnm : x.p.name = ap.name
      · have hnm' : (x.p.name == ap.name) = true := beq_iff_eq.2 hnm
        by_cases hu : x.p.uid = ap.uid
        · rw [show stepQ ap E ⟨ap, apk, af, at_⟩ x = ⟨ap, x.parked && E, x.failed, x.time⟩ from if_pos ⟨hnm, hu⟩] at hfold
          obtain ⟨xp, xpk, xf, xt⟩ := x
          have t1 : ∀ o, (h2.set h'.next o).get h'.next = some o := fun o => Heap.get_set_self gk
          have t2 : ∀ o1 o2, ((h2.set h'.next o1).set h'.next o2).get h'.next = some o2 := fun o1 o2 => Heap.get_set_self (t1 _)
          have t3 : ∀ o1 o2 o3, (((h2.set h'.next o1).set h'.next o2).set h'.next o3).get h'.next = some o3 := fun o1 o2 o3 => Heap.get_set_self (t2 _ _)
          have t4 : ∀ o1 o2 o3, ∀ j, j < h'.next → (((h2.set h'.next o1).set h'.next o2).set h'.next o3).get j = h'.get j := fun o1 o2 o3 j hj => (Heap.get_set_ne (by omega)).trans ((Heap.get_set_ne (by omega)).trans ((Heap.get_set_ne (by omega)).trans (gs j hj)))
          cases xpk <;> cases E
          all_goals
            ((conv => whnf); repeat ((first | refine SIf.tt hnm' ?_ | refine SIf.dt hu ?_ | refine SEx.of (hc2') ?_ | refine SEx.of (map_get' (by omega) hkx) ?_ | refine SEx.of (hx2) ?_ | refine SEx.of (gl) ?_ | refine SEx.of (gk) ?_ | refine SEx.of (t1 _) ?_ | refine SEx.of (t2 _ _) ?_ | refine yf rfl ?_ | refine yt rfl ?_ | refine yo rfl ?_ | refine yc rfl ?_ | refine ys rfl ?_ | refine ye rfl ?_ | refine yn rfl ?_ | refine zw ?_ | refine zdt ?_ | refine zdf ?_ | refine znt ?_ | refine znf ?_ | refine zcd ?_ | refine zci ?_ | refine zc3 ?_) <;> (conv => whnf)))
            exact hR' (ks.length - (m + 1)) _ _ (by omega) ⟨m + 1, ((h2.set h'.next _).set h'.next _).set h'.next _, _, by omega, rfl, gn, t4 _ _ _, by rw [hfold]; exact t3 _ _ _, gl, (by repeat (first | exact Fr.le_nil | refine Fr.le_cons rfl ?_)), rfl⟩
        · rw [show stepQ ap E ⟨ap, apk, af, at_⟩ x = ⟨ap, apk, af, at_⟩ from if_neg fun c => hu c.2] at hfold
          ((conv => whnf); repeat ((first | refine SIf.tt hnm' ?_ | refine SIf.df hu ?_ | refine SEx.of (hc2') ?_ | refine SEx.of (map_get' (by omega) hkx) ?_ | refine SEx.of (hx2) ?_ | refine SEx.of (gl) ?_ | refine yf rfl ?_ | refine yt rfl ?_ | refine yo rfl ?_ | refine yc rfl ?_ | refine ys rfl ?_ | refine ye rfl ?_ | refine yn rfl ?_ | refine zw ?_ | refine zdt ?_ | refine zdf ?_ | refine znt ?_ | refine znf ?_ | refine zcd ?_ | refine zci ?_ | refine zc3 ?_) <;> (conv => whnf)))
          exact hR' (ks.length - (m + 1)) _ _ (by omega) ⟨m + 1, _, _, by omega, rfl, gn, gs, by rw [hfold]; exact gk, gl, (by repeat (first | exact Fr.le_nil | refine Fr.le_cons rfl ?_)), rfl⟩
      · have hnm' : (x.p.name == ap.name) = false := beq_eq_false_iff_ne.2 hnm
        rw [show stepQ ap E ⟨ap, apk, af, at_⟩ x = ⟨ap, apk, af, at_⟩ from if_neg fun c => hnm c.1] at hfold
        ((conv => whnf); repeat ((first | refine SIf.ff hnm' ?_ | refine SEx.of (hc2') ?_ | refine SEx.of (map_get' (by omega) hkx) ?_ | refine SEx.of (hx2) ?_ | refine SEx.of (gl) ?_ | refine yf rfl ?_ | refine yt rfl ?_ | refine yo rfl ?_ | refine yc rfl ?_ | refine ys rfl ?_ | refine ye rfl ?_ | refine yn rfl ?_ | refine zw ?_ | refine zdt ?_ | refine zdf ?_ | refine znt ?_ | refine znf ?_ | refine zcd ?_ | refine zci ?_ | refine zc3 ?_) <;> (conv => whnf)))
        exact hR' (ks.length - (m + 1)) _ _ (by omega) ⟨m + 1, _, _, by omega, rfl, gn, gs, by rw [hfold]; exact gk, gl, (by repeat (first | exact Fr.le_nil | refine Fr.le_cons rfl ?_)), rfl⟩
    · rw [List.take_of_length_le (by omega)] at gk
      have gk : h2.get h'.next = some (.cs (oneR (seekQ its E p))) := gk
      rcases hI.row with ⟨rfl, rfl⟩ | ⟨c', rfl, hc1, hc2, hc3, hc4⟩
      · have hG0 := hI.grow0 hqn rfl gn gs gk
        have hq2 := (gs q (by omega)).trans hI.gq
        have p1 : ∀ o, (h2.push o).get h2.next = some o := fun o => Heap.get_push_self _ o
        have p2 : ∀ o, (h2.push o).get q = some (.cs (qC .nils s)) := fun o => Heap.gp (by omega) hq2
        have p3 : ∀ o o', ((h2.push o).push o').get q = some (.cs (qC .nils s)) := fun o o' => Heap.gp (by rw [Heap.next_push]; omega) (p2 o)
        ((conv => whnf); repeat ((first | refine SEx.of (hq2) ?_ | refine SEx.of (p1 _) ?_ | refine SEx.of (p2 _) ?_ | refine SEx.of (p3 _ _) ?_ | refine yf rfl ?_ | refine yt rfl ?_ | refine yo rfl ?_ | refine yc rfl ?_ | refine ys rfl ?_ | refine ye rfl ?_ | refine yn rfl ?_ | refine zw ?_ | refine zdt ?_ | refine zdf ?_ | refine znt ?_ | refine znf ?_ | refine zcd ?_ | refine zci ?_ | refine zc3 ?_) <;> (conv => whnf)))
        exact hR (w.length - (i + 1)) _ _ (by omega) ⟨i + 1, _, _, [h'.next], _, by omega, rfl, by rw [hsnoc]; exact hG0, (by repeat (first | exact Fr.le_nil | refine Fr.le_cons rfl ?_)), rfl⟩
      · have hG1 := hI.grow1 hc1 hc2 hc3 hqn rfl gn gs gk
        have hq2 := (gs q (by omega)).trans hI.gq
        have hc2' := (gs c' hc2).trans hc4
        have hkl : (ks'.map kR).length = ks'.length := List.length_map _
        have hlk : ks'.length = i := by
          have := hI.its.len
          simp at this
          omega
        have p1 : ∀ o, (h2.push o).get h2.next = some o := fun o => Heap.get_push_self _ o
        have p2 : ∀ o, (h2.push o).get q = some (.cs (qC (.ms (.g c') 1 0 ks'.length) s)) := fun o => Heap.gp (by omega) hq2
        have p4 : ∀ o, (h2.push o).get c' = some (.arr 1 (ks'.map kR)) := fun o => Heap.gp (by omega) hc2'
        have p3 : ∀ o o', (((h2.push o).remove c').push o').get q = some (.cs (qC (.ms (.g c') 1 0 ks'.length) s)) := fun o o' => Heap.gp (by rw [Heap.next_remove, Heap.next_push]; omega) (Heap.gr (by omega) (p2 o))
        have hrow : ((ks'.map kR).take (0 + ks'.length)).drop 0 ++ [kR h'.next] = ks'.map kR ++ [kR h'.next] := by rw [List.drop_zero, List.take_of_length_le (by rw [hkl]; omega)]
        ((conv => whnf); repeat ((first | refine SChk.mk (by simp [roomOk]; omega) ?_ | refine SChk.mk (decide_eq_true (show 0 + ks'.length ≤ (ks'.map kR).length by omega)) ?_ | refine SIf.df (show ¬ 0 + ks'.length + 1 ≤ (ks'.map kR).length by omega) ?_ | refine SEx.of (congrArg some hrow) ?_ | refine SEx.of (hq2) ?_ | refine SEx.of (p1 _) ?_ | refine SEx.of (p2 _) ?_ | refine SEx.of (p3 _ _) ?_ | refine SEx.of (p4 _) ?_ | refine yf rfl ?_ | refine yt rfl ?_ | refine yo rfl ?_ | refine yc rfl ?_ | refine ys rfl ?_ | refine ye rfl ?_ | refine yn rfl ?_ | refine zw ?_ | refine zdt ?_ | refine zdf ?_ | refine znt ?_ | refine znf ?_ | refine zcd ?_ | refine zci ?_ | refine zc3 ?_) <;> (conv => whnf)))
        exact hR (w.length - (i + 1)) _ _ (by omega) ⟨i + 1, _, _, ks' ++ [h'.next], _, by omega, rfl, by rw [hsnoc]; exact hG1, (by repeat (first | exact Fr.le_nil | refine Fr.le_cons rfl ?_)), rfl⟩
  · ((conv => whnf); repeat ((first | refine yf rfl ?_ | refine yt rfl ?_ | refine yo rfl ?_ | refine yc rfl ?_ | refine ys rfl ?_ | refine ye rfl ?_ | refine yn rfl ?_ | refine zw ?_ | refine zdt ?_ | refine zdf ?_ | refine znt ?_ | refine znf ?_ | refine zcd ?_ | refine zci ?_ | refine zc3 ?_) <;> (conv => whnf)))
    refine hK h' ks' ?_
    have := hI.q hqn
    rw [List.take_of_length_le (by omega)] at this
    exact this
end
end Go.Eng
