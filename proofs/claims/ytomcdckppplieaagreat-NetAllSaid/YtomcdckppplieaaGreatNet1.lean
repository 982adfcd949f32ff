/-
The net: its mail in a row; sent behind all else, taken from any place.
-/
import Derived.Test.YtomcdckppplieaaGreatNOa
set_option linter.unusedVariables false
set_option linter.unusedSimpArgs false
namespace Go.Eng
open Go
/-- The net at `a`, and its mail. -/
def NetAt (h : Heap) (a : Nat) (most : Int) (L : List MailD) : Prop :=
  a < h.next ∧ ((L = [] ∧ h.get a = some (.cs [.nils, .i .i64 most])) ∨ ∃ c d, c ≠ a ∧ c < h.next ∧ h.get a = some (.cs [.ms (.g c) 3 0 L.length, .i .i64 most]) ∧ h.get c = some (.arr 3 (L.map mailR ++ List.replicate d mail0)))
theorem mails_len (L : List MailD) (d : Nat) : (L.map mailR ++ List.replicate d mail0).length = L.length + d := by simp
theorem row_put (L : List MailD) (d : Nat) (m : MailD) : (L.map mailR ++ List.replicate (d + 1) mail0).take (0 + L.length) ++ [mailR m] ++ (L.map mailR ++ List.replicate (d + 1) mail0).drop (0 + L.length + 1) = (L ++ [m]).map mailR ++ List.replicate d mail0 := by
  have h1 : (L.map mailR).length = L.length := List.length_map _
  rw [Nat.zero_add, List.take_append_of_le_length (by omega), List.take_of_length_le (by omega), List.drop_append, List.drop_of_length_le (by omega), h1, List.replicate_succ]
  simp
theorem row_new (L : List MailD) (m : MailD) : ((L.map mailR ++ List.replicate 0 mail0).take (0 + L.length)).drop 0 ++ [mailR m] = (L ++ [m]).map mailR ++ List.replicate 0 mail0 := by
  have h1 : (L.map mailR).length = L.length := List.length_map _
  rw [Nat.zero_add, List.replicate_zero, List.append_nil, List.drop_zero, List.take_of_length_le (by omega)]
  simp
theorem K_to {K : V → Heap → Prop} {v v' : V} {h h' : Heap} (hK : K v h) (e1 : v = v') (e2 : h = h') : K v' h' := by subst e1; subst e2; exact hK
section
variable {P : Program} (hG : FnsOk P AF.fns.get)
include hG
theorem len_at {h : Heap} {a : Nat} {most : Int} {L : List MailD} (ha : NetAt h a most L) {K : V → Heap → Prop} (hK : K (.i .i64 L.length) h) : ACall P 24 [.p (.g a) 0] h K := by
  refine fn_sp (hG _ AF.f24 rfl) rfl ?_
  obtain ⟨_, ⟨rfl, h1⟩ | ⟨c, d, _, _, h1, h2⟩⟩ := ha
  · ((conv => whnf); repeat ((first | refine SIf.ff rfl ?_ | refine SIf.tt rfl ?_ | refine SOpt.of rfl ?_ | refine SChk.mk rfl ?_ | refine SSame.mk rfl ?_ | refine SEx.of (h1) ?_ | refine SEx.of rfl ?_) <;> (conv => whnf)))
    exact hK
  · ((conv => whnf); repeat ((first | refine SIf.ff rfl ?_ | refine SIf.tt rfl ?_ | refine SOpt.of rfl ?_ | refine SChk.mk rfl ?_ | refine SSame.mk rfl ?_ | refine SEx.of (h1) ?_ | refine SEx.of rfl ?_) <;> (conv => whnf)))
    exact hK
set_option maxHeartbeats 2000000 in
theorem send_at {h : Heap} {a : Nat} {most : Int} {L : List MailD} {m : MailD} (ha : NetAt h a most L) (hl : L.length ≤ 1000) (hm : m.b.length ≤ 1000) {K : V → Heap → Prop}
    (hf : most ≤ L.length → K (.b false) h) (hK : L.length < most → ∀ h', NetAt h' a most (L ++ [m]) → K (.b true) h') : ACall P 25 [.p (.g a) 0, .agg (mailR m)] h K := by
  have hcop := copied_ok hG m (by omega)
  refine fn_sp (hG _ AF.f25 rfl) rfl ?_
  obtain ⟨han, ⟨rfl, h1⟩ | ⟨c, d, hca, hcn, h1, h2⟩⟩ := ha
  · have hne : a ≠ h.next := by omega
    have g1 : ∀ o, (h.push o).get h.next = some o := fun o => Heap.get_push_self h o
    have g5 : ∀ o o', ((h.push o).push o').get a = some (.cs [.nils, .i .i64 most]) := fun o o' => Heap.gp (by rw [Heap.next_push]; omega) (Heap.gp hne h1)
    ((conv => whnf); repeat ((first | refine SIf.ff rfl ?_ | refine SIf.tt rfl ?_ | refine SOpt.of rfl ?_ | refine SChk.mk rfl ?_ | refine SSame.mk rfl ?_ | refine SEx.of (h1) ?_ | refine SEx.of rfl ?_) <;> (conv => whnf)))
    refine SIf.ds (fun hc => ?_) (fun hc => ?_)
    · ((conv => whnf); repeat ((first | refine SIf.ff rfl ?_ | refine SIf.tt rfl ?_ | refine SOpt.of rfl ?_ | refine SChk.mk rfl ?_ | refine SSame.mk rfl ?_ | refine SEx.of (h1) ?_ | refine SEx.of rfl ?_) <;> (conv => whnf)))
      exact hf hc
    · ((conv => whnf); repeat ((first | refine SCall.app (Pure.go hcop rfl) ?_ | refine SIf.ff rfl ?_ | refine SIf.tt rfl ?_ | refine SOpt.of rfl ?_ | refine SChk.mk rfl ?_ | refine SSame.mk rfl ?_ | refine SEx.of (h1) ?_ | refine SEx.of (Heap.gp hne h1) ?_ | refine SEx.of (g1 _) ?_ | refine SEx.of (g5 _ _) ?_ | refine SEx.of rfl ?_) <;> (conv => whnf)))
      have hat : NetAt (((h.push (.arr 3 [mailR m])).push (.arr 3 [mailR m])).set a (.cs [.ms (.g (h.next + 1)) 3 0 1, .i .i64 most])) a most ([] ++ [m]) := ⟨by show a < h.next + 1 + 1; omega, .inr ⟨h.next + 1, 0, by omega, by show h.next + 1 < h.next + 1 + 1; omega, Heap.get_set_self (g5 _ _), Heap.gs (by omega) (Heap.get_push_self _ _)⟩⟩
      exact hK (by simp; omega) _ hat
  · have hne : a ≠ h.next := by omega
    have hne2 : a ≠ c := fun e => hca e.symm
    have hne3 : c ≠ h.next := by omega
    have hrl := mails_len L d
    have g1 : ∀ o, (h.push o).get h.next = some o := fun o => Heap.get_push_self h o
    have g2 : ∀ o, (h.push o).get c = some (.arr 3 (L.map mailR ++ List.replicate d mail0)) := fun o => Heap.gp hne3 h2
    have g3 : ∀ o, (h.push o).get a = some (.cs [.ms (.g c) 3 0 L.length, .i .i64 most]) := fun o => Heap.gp hne h1
    ((conv => whnf); repeat ((first | refine SIf.ff rfl ?_ | refine SIf.tt rfl ?_ | refine SOpt.of rfl ?_ | refine SChk.mk rfl ?_ | refine SSame.mk rfl ?_ | refine SEx.of (h1) ?_ | refine SEx.of rfl ?_) <;> (conv => whnf)))
    refine SIf.ds (fun hc => ?_) (fun hc => ?_)
    · ((conv => whnf); repeat ((first | refine SIf.ff rfl ?_ | refine SIf.tt rfl ?_ | refine SOpt.of rfl ?_ | refine SChk.mk rfl ?_ | refine SSame.mk rfl ?_ | refine SEx.of (h1) ?_ | refine SEx.of rfl ?_) <;> (conv => whnf)))
      exact hf hc
    · cases d with
      | zero =>
        have g5 : ∀ o o', (((h.push o).remove c).push o').get a = some (.cs [.ms (.g c) 3 0 L.length, .i .i64 most]) := fun o o' => Heap.gp (by rw [Heap.next_remove, Heap.next_push]; omega) (Heap.gr hne2 (g3 o))
        ((conv => whnf); repeat ((first | refine SCall.app (Pure.go hcop rfl) ?_ | refine SChk.mk (by simp [roomOk]; omega) ?_ | refine SChk.mk (decide_eq_true (by rw [hrl]; omega)) ?_ | refine SIf.df (by rw [hrl]; show ¬ 0 + L.length + 1 ≤ L.length + 0; omega) ?_ | refine SIf.ff rfl ?_ | refine SIf.tt rfl ?_ | refine SOpt.of rfl ?_ | refine SChk.mk rfl ?_ | refine SSame.mk rfl ?_ | refine SEx.of (h1) ?_ | refine SEx.of (h2) ?_ | refine SEx.of (g1 _) ?_ | refine SEx.of (g2 _) ?_ | refine SEx.of (g3 _) ?_ | refine SEx.of (g5 _ _) ?_ | refine SEx.of rfl ?_) <;> (conv => whnf)))
        have hat : NetAt ((((h.push (.arr 3 [mailR m])).remove c).push (.arr 3 ((L ++ [m]).map mailR ++ List.replicate 0 mail0))).set a (.cs [.ms (.g (h.next + 1)) 3 0 (L ++ [m]).length, .i .i64 most])) a most (L ++ [m]) :=
          ⟨by show a < h.next + 1 + 1; omega, .inr ⟨h.next + 1, 0, by omega, by show h.next + 1 < h.next + 1 + 1; omega, Heap.get_set_self (g5 _ _), Heap.gs (by omega) (Heap.get_push_self _ _)⟩⟩
        rw [← row_new L m, List.length_append] at hat
        exact hK (by omega) _ hat
      | succ d =>
        have g4 : ∀ o o', ((h.push o).set c o').get a = some (.cs [.ms (.g c) 3 0 L.length, .i .i64 most]) := fun o o' => Heap.gs hne2 (g3 o)
        ((conv => whnf); repeat ((first | refine SCall.app (Pure.go hcop rfl) ?_ | refine SChk.mk (by simp [roomOk]; omega) ?_ | refine SChk.mk (decide_eq_true (by rw [hrl]; omega)) ?_ | refine SIf.dt (by rw [hrl]; show 0 + L.length + 1 ≤ L.length + (d + 1); omega) ?_ | refine SIf.ff rfl ?_ | refine SIf.tt rfl ?_ | refine SOpt.of rfl ?_ | refine SChk.mk rfl ?_ | refine SSame.mk rfl ?_ | refine SEx.of (h1) ?_ | refine SEx.of (h2) ?_ | refine SEx.of (g1 _) ?_ | refine SEx.of (g2 _) ?_ | refine SEx.of (g3 _) ?_ | refine SEx.of (g4 _ _) ?_ | refine SEx.of rfl ?_) <;> (conv => whnf)))
        have hat : NetAt (((h.push (.arr 3 [mailR m])).set c (.arr 3 ((L ++ [m]).map mailR ++ List.replicate d mail0))).set a (.cs [.ms (.g c) 3 0 (L ++ [m]).length, .i .i64 most])) a most (L ++ [m]) :=
          ⟨by show a < h.next + 1; omega, .inr ⟨c, d, hca, by show c < h.next + 1; omega, Heap.get_set_self (g4 _ _), Heap.gs (by omega) (Heap.get_set_self (g2 _))⟩⟩
        rw [← row_put L d m, List.length_append] at hat
        exact hK (by omega) _ hat
end
end Go.Eng
