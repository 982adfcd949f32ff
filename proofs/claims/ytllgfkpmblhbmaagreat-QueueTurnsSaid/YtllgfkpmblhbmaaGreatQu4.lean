/-
The queue: it learns who waits.
-/
import Derived.Test.YtllgfkpmblhbmaaGreatQu3
set_option linter.unusedVariables false
set_option linter.unusedSimpArgs false
namespace Go.Eng
open Go
theorem SyncI.init {h h1 : Heap} {q : Nat} {s : StD} (hn : h1.next = h.next) (hg : h1.get q = some (.cs (qC .nils s))) (hs : ∀ j, j ≠ q → h1.get j = h.get j) : SyncI h q s [] h1 [] .nils :=
  ⟨⟨by omega, fun n _ hne => hs n hne⟩, fun k hk => (by cases hk), hg, .inl ⟨rfl, rfl⟩, ⟨rfl, fun j k o hj => by simp at hj, .nil⟩⟩
section
variable {P : Program} (hG : FnsOk P AF.fns.get)
include hG
set_option maxHeartbeats 16000000 in
set_option maxRecDepth 20000 in
theorem sync_new {h : Heap} {q : Nat} (hqn : q < h.next) (hq : h.get q = some (.cs [.nils, .nils, .nils, .b false])) (s : StD) (pl : List PodD) (hwo : ∀ (h : Heap) (K : V → Heap → Prop), K (stV s) h → ACall P 24 [.agg [.nils, .sl none 16 (pl.map podR)], .nils] h K) (w : List PodD) (hw1000 : w.length ≤ 1000) (hpe : ∀ (h : Heap) (K : V → Heap → Prop), K (.sl none 16 (w.map podR)) h → ACall P 27 [.agg [.nils, .sl none 16 (pl.map podR)]] h K) {K : V → Heap → Prop}
    (hK : ∀ h' ks', QAt h' q ks' (w.map (seekQ [] false)) s → K (.tup []) h') : ACall P 26 [.p (.g q) 0, .agg [.nils, .sl none 16 (pl.map podR)]] h K := by
  have hwl : (w.map podR).length = w.length := List.length_map _
  have s1 : ∀ o, (h.set q o).get q = some o := fun o => Heap.get_set_self hq
  have s2 : ∀ o1 o2, ((h.set q o1).set q o2).get q = some o2 := fun o1 o2 => Heap.get_set_self (s1 _)
  have s3 : ∀ o1 o2 o3, (((h.set q o1).set q o2).set q o3).get q = some o3 := fun o1 o2 o3 => Heap.get_set_self (s2 _ _)
  have hin0 := fun o1 o2 => SyncI.init (h := h) (h1 := ((h.set q o1).set q o2).set q (.cs (qC .nils s))) (q := q) (s := s) rfl (s3 _ _ _) fun j hj => (Heap.get_set_ne hj).trans ((Heap.get_set_ne hj).trans (Heap.get_set_ne hj))
  refine fn_sp (hG _ AF.f26 rfl) rfl ?_
  ((conv => whnf); repeat ((first | refine SCall.app (hwo _ _) ?_ | refine SCall.app (hpe _ _) ?_ | refine SEx.of (hq) ?_ | refine SEx.of (s1 _) ?_ | refine SEx.of (s2 _ _) ?_ | refine SEx.of (s3 _ _ _) ?_ | refine yf rfl ?_ | refine yt rfl ?_ | refine yo rfl ?_ | refine yc rfl ?_ | refine ys rfl ?_ | refine ye rfl ?_ | refine yn rfl ?_ | refine zw ?_ | refine zdt ?_ | refine zdf ?_ | refine znt ?_ | refine znf ?_ | refine zcd ?_ | refine zci ?_ | refine zc3 ?_) <;> (conv => whnf)))
  refine SLoop.by (fun n fr st => ∃ (i : Nat) (h' l : Heap) (ks' : List Nat) (lv' : V), i ≤ w.length ∧ n = w.length - i ∧ SyncI h q s ((w.take i).map (seekQ [] false)) h' ks' lv' ∧
      Fr.le [(45, .i .i64 i), (44, .i .i64 (w.map podR).length), (43, .sl none 16 (w.map podR)), (5, .nils), (4, .b (!false)), (0, .p (.g q) 0)] fr ∧ st = ⟨h', l⟩)
    w.length ⟨0, _, _, [], .nils, Nat.zero_le _, rfl, hin0 _ _, (by repeat (first | exact Fr.le_nil | refine Fr.le_cons rfl ?_)), rfl⟩ ?_
  rintro n fr st ⟨i, h', l, ks', lv', hi, rfl, hI, hle0, rfl⟩
  refine ⟨_, hle0, fun R hR => ?_⟩
  have hkn := hI.keeps.next
  by_cases hin : i < w.length
  · have he := List.getElem?_eq_getElem hin
    generalize w[i] = p at he
    have hsnoc : (w.take (i + 1)).map (seekQ [] false) = (w.take i).map (seekQ [] false) ++ [seekQ [] false p] := by rw [take_succ' he, List.map_append]; rfl
    have gn : (h'.push (.cs (oneR ⟨p, false, 0, 0⟩))).next = h'.next + 1 := rfl
    have gs : ∀ j, j < h'.next → (h'.push (.cs (oneR ⟨p, false, 0, 0⟩))).get j = h'.get j := fun j hj => Heap.get_push_ne (by omega)
    have gk : (h'.push (.cs (oneR ⟨p, false, 0, 0⟩))).get h'.next = some (.cs (oneR ⟨p, false, 0, 0⟩)) := Heap.get_push_self _ _
    ((conv => whnf); repeat ((first | refine SLoop.un ?_ | refine SEx.of (map_get' (by omega) he) ?_ | refine SEx.of (Heap.get_push_self _ _) ?_ | refine SEx.of (Heap.get_set_self (Heap.get_push_self _ _)) ?_ | refine yf rfl ?_ | refine yt rfl ?_ | refine yo rfl ?_ | refine yc rfl ?_ | refine ys rfl ?_ | refine ye rfl ?_ | refine yn rfl ?_ | refine zw ?_ | refine zdt ?_ | refine zdf ?_ | refine znt ?_ | refine znf ?_ | refine zcd ?_ | refine zci ?_ | refine zc3 ?_) <;> (conv => whnf)))
    rcases hI.row with ⟨rfl, rfl⟩ | ⟨c', rfl, hc1, hc2, hc3, hc4⟩
    · have hG0 := hI.grow0 hqn rfl gn gs gk
      have hq2 := (gs q (by omega)).trans hI.gq
      have p1 : ∀ o, ((h'.push (.cs (oneR ⟨p, false, 0, 0⟩))).push o).get (h'.push (.cs (oneR ⟨p, false, 0, 0⟩))).next = some o := fun o => Heap.get_push_self _ o
      have p2 : ∀ o, ((h'.push (.cs (oneR ⟨p, false, 0, 0⟩))).push o).get q = some (.cs (qC .nils s)) := fun o => Heap.gp (by omega) hq2
      have p3 : ∀ o o', (((h'.push (.cs (oneR ⟨p, false, 0, 0⟩))).push o).push o').get q = some (.cs (qC .nils s)) := fun o o' => Heap.gp (by rw [Heap.next_push]; omega) (p2 o)
      ((conv => whnf); repeat ((first | refine SEx.of (hq2) ?_ | refine SEx.of (p1 _) ?_ | refine SEx.of (p2 _) ?_ | refine SEx.of (p3 _ _) ?_ | refine yf rfl ?_ | refine yt rfl ?_ | refine yo rfl ?_ | refine yc rfl ?_ | refine ys rfl ?_ | refine ye rfl ?_ | refine yn rfl ?_ | refine zw ?_ | refine zdt ?_ | refine zdf ?_ | refine znt ?_ | refine znf ?_ | refine zcd ?_ | refine zci ?_ | refine zc3 ?_) <;> (conv => whnf)))
      exact hR (w.length - (i + 1)) _ _ (by omega) ⟨i + 1, _, _, [h'.next], _, by omega, rfl, by rw [hsnoc]; exact hG0, (by repeat (first | exact Fr.le_nil | refine Fr.le_cons rfl ?_)), rfl⟩
    · have hG1 := hI.grow1 hc1 hc2 hc3 hqn rfl gn gs gk
      have hq2 := (gs q (by omega)).trans hI.gq
      have hc2' := (gs c' hc2).trans hc4
      have hkl : (ks'.map kR).length = ks'.length := List.length_map _
      have hlk : ks'.length = i := by
        have := hI.its.len
        simp at this
        omega
      have p1 : ∀ o, ((h'.push (.cs (oneR ⟨p, false, 0, 0⟩))).push o).get (h'.push (.cs (oneR ⟨p, false, 0, 0⟩))).next = some o := fun o => Heap.get_push_self _ o
      have p2 : ∀ o, ((h'.push (.cs (oneR ⟨p, false, 0, 0⟩))).push o).get q = some (.cs (qC (.ms (.g c') 1 0 ks'.length) s)) := fun o => Heap.gp (by omega) hq2
      have p4 : ∀ o, ((h'.push (.cs (oneR ⟨p, false, 0, 0⟩))).push o).get c' = some (.arr 1 (ks'.map kR)) := fun o => Heap.gp (by omega) hc2'
      have p3 : ∀ o o', ((((h'.push (.cs (oneR ⟨p, false, 0, 0⟩))).push o).remove c').push o').get q = some (.cs (qC (.ms (.g c') 1 0 ks'.length) s)) := fun o o' => Heap.gp (by rw [Heap.next_remove, Heap.next_push]; omega) (Heap.gr (by omega) (p2 o))
      have hrow : ((ks'.map kR).take (0 + ks'.length)).drop 0 ++ [kR h'.next] = ks'.map kR ++ [kR h'.next] := by rw [List.drop_zero, List.take_of_length_le (by rw [hkl]; omega)]
      ((conv => whnf); repeat ((first | refine SChk.mk (by simp [roomOk]; omega) ?_ | refine SChk.mk (decide_eq_true (show 0 + ks'.length ≤ (ks'.map kR).length by omega)) ?_ | refine SIf.df (show ¬ 0 + ks'.length + 1 ≤ (ks'.map kR).length by omega) ?_ | refine SEx.of (congrArg some hrow) ?_ | refine SEx.of (hq2) ?_ | refine SEx.of (p1 _) ?_ | refine SEx.of (p2 _) ?_ | refine SEx.of (p3 _ _) ?_ | refine SEx.of (p4 _) ?_ | refine yf rfl ?_ | refine yt rfl ?_ | refine yo rfl ?_ | refine yc rfl ?_ | refine ys rfl ?_ | refine ye rfl ?_ | refine yn rfl ?_ | refine zw ?_ | refine zdt ?_ | refine zdf ?_ | refine znt ?_ | refine znf ?_ | refine zcd ?_ | refine zci ?_ | refine zc3 ?_) <;> (conv => whnf)))
      exact hR (w.length - (i + 1)) _ _ (by omega) ⟨i + 1, _, _, ks' ++ [h'.next], _, by omega, rfl, by rw [hsnoc]; exact hG1, (by repeat (first | exact Fr.le_nil | refine Fr.le_cons rfl ?_)), rfl⟩
  · ((conv => whnf); repeat ((first | refine yf rfl ?_ | refine yt rfl ?_ | refine yo rfl ?_ | refine yc rfl ?_ | refine ys rfl ?_ | refine ye rfl ?_ | refine yn rfl ?_ | refine zw ?_ | refine zdt ?_ | refine zdf ?_ | refine znt ?_ | refine znf ?_ | refine zcd ?_ | refine zci ?_ | refine zc3 ?_) <;> (conv => whnf)))
    refine hK h' ks' ?_
    have := hI.q hqn
    rw [List.take_of_length_le (by omega)] at this
    exact this
end
end Go.Eng
