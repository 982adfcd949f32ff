/-
QueueTurns: plain part.
-/
import Derived.Test.YtllgfkpmblhbmaaGreatQu4b
import Derived.Test.YtllgfkpmblhbmaaGreatQu4c
import Derived.Test.YtllgfkpmblhbmaaGreatWiN
import Derived.Test.YtllgfkpmblhbmaaGreatWiF0
import Derived.Test.YtllgfkpmblhbmaaGreatAfQ
set_option linter.unusedVariables false
set_option linter.unusedSimpArgs false
namespace Go.Eng
open Go
def freshQ (p : PodD) : OneD := ⟨p, false, 0, 0⟩
def doneQ (p : PodD) : OneD := ⟨p, true, 1, 55⟩
def waitQ (p : PodD) : OneD := ⟨p, false, 1, 55⟩
def itsM (w : List PodD) (m : Nat) : List OneD := (w.take m).map doneQ ++ (w.drop m).map freshQ
theorem itsM_zero (w : List PodD) : itsM w 0 = w.map (seekQ [] false) := rfl
theorem itsM_len (w : List PodD) (m : Nat) : (itsM w m).length = w.length := by
  simp only [itsM, List.length_append, List.length_map, List.length_take, List.length_drop]; omega
theorem itsM_all (w : List PodD) {m : Nat} (h : w.length ≤ m) : itsM w m = w.map doneQ := by
  unfold itsM
  rw [List.take_of_length_le h, List.drop_of_length_le h]
  simp
theorem itsM_get {w : List PodD} {m : Nat} {x : PodD} (hx : w[m]? = some x) : (itsM w m)[m]? = some (freshQ x) := by
  have hm := (List.getElem?_eq_some_iff.1 hx).1
  unfold itsM
  rw [List.getElem?_append_right (by rw [List.length_map, List.length_take]; omega)]
  have : m - ((w.take m).map doneQ).length = 0 := by rw [List.length_map, List.length_take]; omega
  rw [this, List.getElem?_map, List.getElem?_drop, Nat.add_zero, hx]
  rfl
theorem itsM_p (w : List PodD) (m : Nat) : (itsM w m).map (·.p) = w := by
  unfold itsM
  rw [List.map_append, List.map_map, List.map_map]
  have e1 : ((·.p) ∘ doneQ) = id := rfl
  have e2 : ((·.p) ∘ freshQ) = id := rfl
  rw [e1, e2, List.map_id, List.map_id, List.take_append_drop]
theorem itsM_find {w : List PodD} {m : Nat} {x : PodD} (hx : w[m]? = some x) : (itsM w m).find? (turnD 5) = some (freshQ x) := by
  unfold itsM
  rw [List.find?_append]
  have h1 : ((w.take m).map doneQ).find? (turnD 5) = none := by
    rw [List.find?_eq_none]
    intro o ho
    obtain ⟨p, _, rfl⟩ := List.mem_map.1 ho
    simp [turnD, doneQ]
  rw [h1]
  have hm := (List.getElem?_eq_some_iff.1 hx)
  rw [List.drop_eq_getElem_cons hm.1, hm.2]
  rfl
theorem itsM_set {w : List PodD} {m : Nat} {x : PodD} (hx : w[m]? = some x) : (itsM w m).set m (doneQ x) = itsM w (m + 1) := by
  have hm := (List.getElem?_eq_some_iff.1 hx)
  unfold itsM
  rw [take_succ' hx, List.map_append, List.set_append_right _ _ (by rw [List.length_map, List.length_take]; omega)]
  have : m - ((w.take m).map doneQ).length = 0 := by have := hm.1; rw [List.length_map, List.length_take]; omega
  rw [this, List.drop_eq_getElem_cons hm.1, hm.2]
  simp
/-- Names are unlike: one is found at one place alone. -/
theorem uniq_at {its : List OneD} (hn : (its.map (·.p)).Pairwise fun a b => a.name ≠ b.name) {j0 : Nat} {o0 : OneD} (h0 : its[j0]? = some o0) : ∀ (j : Nat) (o : OneD), its[j]? = some o → (o.p.name == o0.p.name) = decide (j = j0) := by
  intro j o hj
  by_cases e : j = j0
  · subst e
    rw [h0] at hj
    cases hj
    simp
  · rw [decide_eq_false e, beq_eq_false_iff_ne]
    rw [List.pairwise_map, List.pairwise_iff_getElem] at hn
    obtain ⟨a1, a2⟩ := List.getElem?_eq_some_iff.1 hj
    obtain ⟨b1, b2⟩ := List.getElem?_eq_some_iff.1 h0
    rcases Nat.lt_or_gt_of_ne e with h | h
    · have := hn j j0 a1 b1 h
      rw [a2, b2] at this
      exact this
    · have := hn j0 j b1 a1 h
      rw [a2, b2] at this
      exact fun e => this e.symm
theorem QAt.ms {h : Heap} {q : Nat} {ks : List Nat} {its : List OneD} {s : StD} (hq : QAt h q ks its s) (hne : its ≠ []) : ∃ c, h.get q = some (.cs (qC (.ms (.g c) 1 0 ks.length) s)) ∧ c ≠ q ∧ c < h.next ∧ h.get c = some (.arr 1 (ks.map kR)) := by
  obtain ⟨lv, h1, h2⟩ := hq.row
  rcases h2 with ⟨rfl, _⟩ | ⟨c, rfl, h3, h4, _, h5⟩
  · have := hq.its.len
    exact absurd (List.length_eq_zero_iff.1 this.symm) hne
  · exact ⟨c, h1, h3, h4, h5⟩
theorem without_nil0 (s : StD) : withoutD s [] = s := by
  obtain ⟨ns, ps⟩ := s
  unfold withoutD
  congr 1
  rw [List.filter_eq_self]
  intro q _
  rfl
def newN : NodeD := ⟨[110, 101, 119], ⟨0, 0, 0⟩, [], []⟩
def newRow : List V := [.s [110, 101, 119], .i .i64 0, .i .i64 0, .i .i64 0, .nils, .nils]
section
variable {P : Program} (hG : FnsOk P AF.fns.get)
include hG
theorem eqf_node1 : Pure P 125 [.sl none 6 [nodeR newN], .sl none 6 [], .fn 126 [] []] (· = .b false) := by
  refine pure_fn (hG _ AF.f125 rfl) rfl ?_
  ((conv => whnf); repeat ((first | refine yf rfl ?_ | refine yt rfl ?_ | refine yo rfl ?_ | refine yc rfl ?_ | refine ys rfl ?_ | refine ye rfl ?_ | refine yn rfl ?_ | refine zw ?_ | refine zdt ?_ | refine zdf ?_ | refine znt ?_ | refine znf ?_ | refine zcd ?_ | refine zci ?_ | refine zc3 ?_ | refine SLoopZ.un rfl ?_) <;> (conv => whnf)))
  exact pure_free rfl rfl
theorem eqState1 (a b : List PodD) : Pure P 76 [stV ⟨[newN], a⟩, stV ⟨[], b⟩] (· = .b false) := by
  have h := eqf_node1 hG
  refine pure_fn (hG _ AF.f76 rfl) rfl ?_
  ((conv => whnf); repeat ((first | refine SCall.app (Pure.go h rfl) ?_ | refine yf rfl ?_ | refine yt rfl ?_ | refine yo rfl ?_ | refine yc rfl ?_ | refine ys rfl ?_ | refine ye rfl ?_ | refine yn rfl ?_ | refine zw ?_ | refine zdt ?_ | refine zdf ?_ | refine znt ?_ | refine znf ?_ | refine zcd ?_ | refine zci ?_ | refine zc3 ?_) <;> (conv => whnf)))
  exact pure_free rfl rfl
theorem wo_nil (l : List PodD) (hg : GoodL l) (hl : l.length ≤ 1000) : ∀ (h : Heap) (K : V → Heap → Prop), K (stV ⟨[], l⟩) h → ACall P 24 [.agg [.nils, .sl none 16 (l.map podR)], .nils] h K := fun h K hK => by
  have h0 := without_ok hG ⟨[], l⟩ [] (Nat.zero_le _) (hg.ok (by omega)) (small0 l) (fun q hq => (hg q hq).2) (Nat.zero_le _)
  rw [without_nil0] at h0
  exact Pure.call1 h0 (by ((repeat (first | exact trivial | refine ⟨by first | exact ce1_free rfl | exact .inl .nil | exact .inl .tok | exact .inl (.rows (by ((repeat (first | exact .nil | refine .cons (by ((repeat (first | exact .nil | refine .cons (by first | exact .refl _ | exact .nil _) ?_)); first | done | fail)) ?_)); first | done | fail))) | exact .inr (.inl ⟨_, _, rfl, rfl, (by ((repeat (first | exact trivial | refine ⟨by first | exact ce_flat rfl | exact .nil | exact .tok | exact .ren rfl (Nat.le_of_ble_eq_true rfl) | exact .rows (by ((repeat (first | exact .nil | refine .cons (by ((repeat (first | exact .nil | refine .cons (by first | exact .refl _ | exact .nil _) ?_)); first | done | fail)) ?_)); first | done | fail)), ?_⟩)); first | done | fail))⟩), ?_⟩)); first | done | fail)) rfl hK
theorem wo_row (l : List PodD) (hg : GoodL l) (hl : l.length ≤ 1000) : ∀ (h : Heap) (K : V → Heap → Prop), K (stV ⟨[newN], l⟩) h → ACall P 24 [.agg [.sl none 6 [newRow], .sl none 16 (l.map podR)], .nils] h K := fun h K hK => by
  have hok : (⟨[newN], l⟩ : StD).ok := ⟨show 1 ≤ _ by decide, (by show l.length ≤ _; omega), (fun n hn => by rw [List.mem_singleton.1 hn]; exact ⟨Nat.zero_le _, Nat.zero_le _⟩), fun p hp => (hg p hp).1, (by show l.length * 248 ≤ _; omega)⟩
  have h0 := without_ok hG ⟨[newN], l⟩ [] (show 1 ≤ 1000 by decide) hok (fun n hn => by rw [List.mem_singleton.1 hn]; exact ⟨Nat.zero_le _, Nat.zero_le _⟩) (fun q hq => (hg q hq).2) (Nat.zero_le _)
  rw [without_nil0] at h0
  exact Pure.call1 h0 (by ((repeat (first | exact trivial | refine ⟨by first | exact ce1_free rfl | exact .inl .nil | exact .inl .tok | exact .inl (.rows (by ((repeat (first | exact .nil | refine .cons (by ((repeat (first | exact .nil | refine .cons (by first | exact .refl _ | exact .nil _) ?_)); first | done | fail)) ?_)); first | done | fail))) | exact .inr (.inl ⟨_, _, rfl, rfl, (by ((repeat (first | exact trivial | refine ⟨by first | exact ce_flat rfl | exact .nil | exact .tok | exact .ren rfl (Nat.le_of_ble_eq_true rfl) | exact .rows (by ((repeat (first | exact .nil | refine .cons (by ((repeat (first | exact .nil | refine .cons (by first | exact .refl _ | exact .nil _) ?_)); first | done | fail)) ?_)); first | done | fail)), ?_⟩)); first | done | fail))⟩), ?_⟩)); first | done | fail)) rfl hK
theorem pe_nil (l : List PodD) (hg : GoodL l) (hl : l.length ≤ 19) : ∀ (h : Heap) (K : V → Heap → Prop), K (.sl none 16 ((pendL l).map podR)) h → ACall P 27 [.agg [.nils, .sl none 16 (l.map podR)]] h K := fun h K hK => by
  have h0 := pending_ok hG ⟨[], l⟩ (hg.ok (by omega)) (fun q hq => (hg q hq).2) hl
  exact Pure.call1 h0 (by ((repeat (first | exact trivial | refine ⟨by first | exact ce1_free rfl | exact .inl .nil | exact .inl .tok | exact .inl (.rows (by ((repeat (first | exact .nil | refine .cons (by ((repeat (first | exact .nil | refine .cons (by first | exact .refl _ | exact .nil _) ?_)); first | done | fail)) ?_)); first | done | fail))) | exact .inr (.inl ⟨_, _, rfl, rfl, (by ((repeat (first | exact trivial | refine ⟨by first | exact ce_flat rfl | exact .nil | exact .tok | exact .ren rfl (Nat.le_of_ble_eq_true rfl) | exact .rows (by ((repeat (first | exact .nil | refine .cons (by ((repeat (first | exact .nil | refine .cons (by first | exact .refl _ | exact .nil _) ?_)); first | done | fail)) ?_)); first | done | fail)), ?_⟩)); first | done | fail))⟩), ?_⟩)); first | done | fail)) rfl hK
theorem pe_row (l : List PodD) (hg : GoodL l) (hl : l.length ≤ 19) : ∀ (h : Heap) (K : V → Heap → Prop), K (.sl none 16 ((pendL l).map podR)) h → ACall P 27 [.agg [.sl none 6 [newRow], .sl none 16 (l.map podR)]] h K := fun h K hK => by
  have hok : (⟨[newN], l⟩ : StD).ok := ⟨show 1 ≤ _ by decide, (by show l.length ≤ _; omega), (fun n hn => by rw [List.mem_singleton.1 hn]; exact ⟨Nat.zero_le _, Nat.zero_le _⟩), fun p hp => (hg p hp).1, (by show l.length * 248 ≤ _; omega)⟩
  have h0 := pending_ok hG ⟨[newN], l⟩ hok (fun q hq => (hg q hq).2) hl
  exact Pure.call1 h0 (by ((repeat (first | exact trivial | refine ⟨by first | exact ce1_free rfl | exact .inl .nil | exact .inl .tok | exact .inl (.rows (by ((repeat (first | exact .nil | refine .cons (by ((repeat (first | exact .nil | refine .cons (by first | exact .refl _ | exact .nil _) ?_)); first | done | fail)) ?_)); first | done | fail))) | exact .inr (.inl ⟨_, _, rfl, rfl, (by ((repeat (first | exact trivial | refine ⟨by first | exact ce_flat rfl | exact .nil | exact .tok | exact .ren rfl (Nat.le_of_ble_eq_true rfl) | exact .rows (by ((repeat (first | exact .nil | refine .cons (by ((repeat (first | exact .nil | refine .cons (by first | exact .refl _ | exact .nil _) ?_)); first | done | fail)) ?_)); first | done | fail)), ?_⟩)); first | done | fail))⟩), ?_⟩)); first | done | fail)) rfl hK
theorem eq_nil (l : List PodD) (hg : GoodL l) (hl : l.length ≤ 1000) : ∀ (h : Heap) (K : V → Heap → Prop), K (.b true) h → ACall P 76 [.agg [.nils, .sl none 16 (l.map podR)], stV ⟨[], l⟩] h K := fun h K hK => by
  have h0 := eqL_ok hG hg hg (by omega) (by omega)
  rw [decide_eq_true rfl] at h0
  exact Pure.call1 h0 (by ((repeat (first | exact trivial | refine ⟨by first | exact ce1_free rfl | exact .inl .nil | exact .inl .tok | exact .inl (.rows (by ((repeat (first | exact .nil | refine .cons (by ((repeat (first | exact .nil | refine .cons (by first | exact .refl _ | exact .nil _) ?_)); first | done | fail)) ?_)); first | done | fail))) | exact .inr (.inl ⟨_, _, rfl, rfl, (by ((repeat (first | exact trivial | refine ⟨by first | exact ce_flat rfl | exact .nil | exact .tok | exact .ren rfl (Nat.le_of_ble_eq_true rfl) | exact .rows (by ((repeat (first | exact .nil | refine .cons (by ((repeat (first | exact .nil | refine .cons (by first | exact .refl _ | exact .nil _) ?_)); first | done | fail)) ?_)); first | done | fail)), ?_⟩)); first | done | fail))⟩), ?_⟩)); first | done | fail)) rfl hK
theorem eq_row (l : List PodD) : ∀ (h : Heap) (K : V → Heap → Prop), K (.b false) h → ACall P 76 [.agg [.sl none 6 [newRow], .sl none 16 (l.map podR)], stV ⟨[], l⟩] h K := fun h K hK =>
  Pure.call1 (eqState1 hG l l) (by ((repeat (first | exact trivial | refine ⟨by first | exact ce1_free rfl | exact .inl .nil | exact .inl .tok | exact .inl (.rows (by ((repeat (first | exact .nil | refine .cons (by ((repeat (first | exact .nil | refine .cons (by first | exact .refl _ | exact .nil _) ?_)); first | done | fail)) ?_)); first | done | fail))) | exact .inr (.inl ⟨_, _, rfl, rfl, (by ((repeat (first | exact trivial | refine ⟨by first | exact ce_flat rfl | exact .nil | exact .tok | exact .ren rfl (Nat.le_of_ble_eq_true rfl) | exact .rows (by ((repeat (first | exact .nil | refine .cons (by ((repeat (first | exact .nil | refine .cons (by first | exact .refl _ | exact .nil _) ?_)); first | done | fail)) ?_)); first | done | fail)), ?_⟩)); first | done | fail))⟩), ?_⟩)); first | done | fail)) rfl hK
end
end Go.Eng
