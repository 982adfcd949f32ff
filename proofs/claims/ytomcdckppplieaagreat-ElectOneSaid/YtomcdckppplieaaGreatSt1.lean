/-
The store of one key: its log, behind which an event is laid.
-/
import Derived.Test.YtomcdckppplieaaGreatNOa
import Derived.Test.YtomcdckppplieaaGreatHp
set_option linter.unusedVariables false
set_option linter.unusedSimpArgs false
namespace Go.Eng
open Go
def lS : Str := [108]
def lb (b : List Int) : V := .sl none 1 (b.map byR)
/-- The log at `g`, of so many events. -/
def LogAt (h : Heap) (g c n : Nat) (last : Int) : Prop :=
  g < h.next ∧ c < h.next ∧ ∃ base, (n = 0 ∧ c = g ∧ h.get g = some (.cs [.nils, .i .i64 64, .i .i64 base, .i .i64 last])) ∨
    ∃ rows : List (List V), c ≠ g ∧ n ≤ rows.length ∧ h.get g = some (.cs [.ms (.g c) 4 0 n, .i .i64 64, .i .i64 base, .i .i64 last]) ∧ h.get c = some (.arr 4 rows)
def evR (r : Int) (b : List Int) : List V := [.i .i64 r, .s lS, lb b, .b false]
section
variable {P : Program} (hG : FnsOk P AF.fns.get)
include hG
theorem lcopied_ok (r : Int) (b : List Int) (h : b.length * 1 ≤ 140737488355328) : Pure P 94 [.agg (evR r b)] (· = .agg (evR r b)) := by
  have hc := clone_byte hG b h
  refine pure_fn (hG _ AF.f94 rfl) rfl ?_
  ((conv => whnf); repeat ((first | refine SCall.app (Pure.go hc rfl) ?_ | refine yf rfl ?_ | refine yt rfl ?_ | refine yo rfl ?_ | refine yc rfl ?_ | refine ys rfl ?_ | refine ye rfl ?_ | refine yn rfl ?_ | refine zw ?_ | refine zdt ?_ | refine zdf ?_ | refine znt ?_ | refine znf ?_ | refine zcd ?_ | refine zci ?_ | refine zc3 ?_) <;> (conv => whnf)))
  exact pure_free rfl rfl
theorem scopied_ok (k : Str) (r : Int) (b : List Int) (h : b.length * 1 ≤ 140737488355328) : Pure P 47 [.agg [.s k, .i .i64 r, lb b]] (· = .agg [.s k, .i .i64 r, lb b]) := by
  have hc := clone_byte hG b h
  refine pure_fn (hG _ AF.f47 rfl) rfl ?_
  ((conv => whnf); repeat ((first | refine SCall.app (Pure.go hc rfl) ?_ | refine yf rfl ?_ | refine yt rfl ?_ | refine yo rfl ?_ | refine yc rfl ?_ | refine ys rfl ?_ | refine ye rfl ?_ | refine yn rfl ?_ | refine zw ?_ | refine zdt ?_ | refine zdf ?_ | refine znt ?_ | refine znf ?_ | refine zcd ?_ | refine zci ?_ | refine zc3 ?_) <;> (conv => whnf)))
  exact pure_free rfl rfl
set_option maxHeartbeats 4000000 in
theorem add_at {h : Heap} {g c n : Nat} {last r : Int} {b : List Int} (hl : LogAt h g c n last) (hr : last < r) (hn : n < 64) (hb : b.length ≤ 10000) {K : V → Heap → Prop}
    (hK : ∀ h' c', LogAt h' g c' (n + 1) r → (c' = c ∨ h.next ≤ c') → Heap.Keeps (fun j => j = g ∨ j = c) h h' → K (.b true) h') :
    ACall P 57 [.p (.g g) 0, .sl none 4 [evR r b]] h K := by
  have hcop := lcopied_ok hG r b (by omega)
  obtain ⟨hg, hc, base, ⟨rfl, rfl, h1⟩ | ⟨rows, hcg, hnr, h1, h2⟩⟩ := hl
  · have hne : c ≠ h.next := by omega
    have g1 : ∀ o, (h.push o).get h.next = some o := fun o => Heap.get_push_self h o
    have p1 : ∀ o, (h.push o).get c = some (.cs [.nils, .i .i64 64, .i .i64 base, .i .i64 last]) := fun o => Heap.gp hne h1
    have p2 : ∀ o o', ((h.push o).push o').get c = some (.cs [.nils, .i .i64 64, .i .i64 base, .i .i64 last]) := fun o o' => Heap.gp (by rw [Heap.next_push]; omega) (p1 o)
    refine fn_sp (hG _ AF.f57 rfl) rfl ?_
    ((conv => whnf); repeat ((first | refine SLoop.un ?_ | refine w64q (m := 0) rfl (by decide) (by decide) ?_ | refine SCall.app (Pure.go hcop rfl) ?_ | refine SEx.of (h1) ?_ | refine SEx.of (g1 _) ?_ | refine SEx.of (p1 _) ?_ | refine SEx.of (p2 _ _) ?_ | refine SEx.of (Heap.get_set_self (p2 _ _)) ?_ | refine SEx.of (Heap.get_set_self (Heap.get_set_self (p2 _ _))) ?_ | refine yf rfl ?_ | refine yt rfl ?_ | refine yo rfl ?_ | refine yc rfl ?_ | refine ys rfl ?_ | refine ye rfl ?_ | refine yn rfl ?_ | refine zw ?_ | refine zdt ?_ | refine zdf ?_ | refine znt ?_ | refine znf ?_ | refine zcd ?_ | refine zci ?_ | refine zc3 ?_) <;> (conv => whnf)))
    have hat : LogAt ((((h.push (.arr 4 [evR r b])).push (.arr 4 [evR r b])).set c (.cs [.ms (.g (h.next + 1)) 4 0 1, .i .i64 64, .i .i64 base, .i .i64 last])).set c (.cs [.ms (.g (h.next + 1)) 4 0 1, .i .i64 64, .i .i64 base, .i .i64 r])) c (h.next + 1) 1 r :=
      ⟨by show c < h.next + 1 + 1; omega, by show h.next + 1 < h.next + 1 + 1; omega, base, .inr ⟨[evR r b], by omega, Nat.le_refl _, Heap.get_set_self (Heap.get_set_self (p2 _ _)), Heap.gs (by omega) (Heap.gs (by omega) (Heap.get_push_self _ _))⟩⟩
    exact hK _ _ hat (.inr (by omega)) (((((Heap.Keeps.refl _ h).push _).push _).set (.inl (.inl rfl)) _).set (.inl (.inl rfl)) _)
  · have hne : g ≠ h.next := by omega
    have hne2 : c ≠ h.next := by omega
    have hgc : g ≠ c := fun e => hcg e.symm
    have g1 : ∀ o, (h.push o).get h.next = some o := fun o => Heap.get_push_self h o
    have p1 : ∀ o, (h.push o).get g = some (.cs [.ms (.g c) 4 0 n, .i .i64 64, .i .i64 base, .i .i64 last]) := fun o => Heap.gp hne h1
    have p2 : ∀ o, (h.push o).get c = some (.arr 4 rows) := fun o => Heap.gp hne2 h2
    by_cases hroom : 0 + n + 1 ≤ rows.length
    · have p3 : ∀ o o', ((h.push o).set c o').get g = some (.cs [.ms (.g c) 4 0 n, .i .i64 64, .i .i64 base, .i .i64 last]) := fun o o' => Heap.gs hgc (p1 o)
      refine fn_sp (hG _ AF.f57 rfl) rfl ?_
      ((conv => whnf); repeat ((first | refine SLoop.un ?_ | refine w64q (m := 0) rfl (by decide) (by decide) ?_ | refine SCall.app (Pure.go hcop rfl) ?_ | refine SChk.mk (by simp [roomOk]; omega) ?_ | refine SChk.mk (decide_eq_true (show 0 + n ≤ rows.length by omega)) ?_ | refine SIf.dt hroom ?_ | refine SIf.df (show ¬ (64 : Int) < ((n + 1 : Nat) : Int) by omega) ?_ | refine SEx.of (h1) ?_ | refine SEx.of (h2) ?_ | refine SEx.of (g1 _) ?_ | refine SEx.of (p1 _) ?_ | refine SEx.of (p2 _) ?_ | refine SEx.of (p3 _ _) ?_ | refine SEx.of (Heap.get_set_self (p3 _ _)) ?_ | refine SEx.of (Heap.get_set_self (Heap.get_set_self (p3 _ _))) ?_ | refine yf rfl ?_ | refine yt rfl ?_ | refine yo rfl ?_ | refine yc rfl ?_ | refine ys rfl ?_ | refine ye rfl ?_ | refine yn rfl ?_ | refine zw ?_ | refine zdt ?_ | refine zdf ?_ | refine znt ?_ | refine znf ?_ | refine zcd ?_ | refine zci ?_ | refine zc3 ?_) <;> (conv => whnf)))
      have hat : LogAt ((((h.push (.arr 4 [evR r b])).set c (.arr 4 (rows.take (0 + n) ++ [evR r b] ++ rows.drop (0 + n + 1)))).set g (.cs [.ms (.g c) 4 0 (n + 1), .i .i64 64, .i .i64 base, .i .i64 last])).set g (.cs [.ms (.g c) 4 0 (n + 1), .i .i64 64, .i .i64 base, .i .i64 r])) g c (n + 1) r :=
        ⟨by show g < h.next + 1; omega, by show c < h.next + 1; omega, base, .inr ⟨_, hcg, by simp; omega, Heap.get_set_self (Heap.get_set_self (p3 _ _)), Heap.gs (by omega) (Heap.gs (by omega) (Heap.get_set_self (p2 _)))⟩⟩
      exact hK _ _ hat (.inl rfl) (((((Heap.Keeps.refl _ h).push _).set (.inl (.inr rfl)) _).set (.inl (.inl rfl)) _).set (.inl (.inl rfl)) _)
    · have p3 : ∀ o o', (((h.push o).remove c).push o').get g = some (.cs [.ms (.g c) 4 0 n, .i .i64 64, .i .i64 base, .i .i64 last]) := fun o o' => Heap.gp (by rw [Heap.next_remove, Heap.next_push]; omega) (Heap.gr hgc (p1 o))
      refine fn_sp (hG _ AF.f57 rfl) rfl ?_
      ((conv => whnf); repeat ((first | refine SLoop.un ?_ | refine w64q (m := 0) rfl (by decide) (by decide) ?_ | refine SCall.app (Pure.go hcop rfl) ?_ | refine SChk.mk (by simp [roomOk]; omega) ?_ | refine SChk.mk (decide_eq_true (show 0 + n ≤ rows.length by omega)) ?_ | refine SIf.df hroom ?_ | refine SIf.df (show ¬ (64 : Int) < ((n + 1 : Nat) : Int) by omega) ?_ | refine SEx.of (h1) ?_ | refine SEx.of (h2) ?_ | refine SEx.of (g1 _) ?_ | refine SEx.of (p1 _) ?_ | refine SEx.of (p2 _) ?_ | refine SEx.of (p3 _ _) ?_ | refine SEx.of (Heap.get_set_self (p3 _ _)) ?_ | refine SEx.of (Heap.get_set_self (Heap.get_set_self (p3 _ _))) ?_ | refine yf rfl ?_ | refine yt rfl ?_ | refine yo rfl ?_ | refine yc rfl ?_ | refine ys rfl ?_ | refine ye rfl ?_ | refine yn rfl ?_ | refine zw ?_ | refine zdt ?_ | refine zdf ?_ | refine znt ?_ | refine znf ?_ | refine zcd ?_ | refine zci ?_ | refine zc3 ?_) <;> (conv => whnf)))
      have hat : LogAt (((((h.push (.arr 4 [evR r b])).remove c).push (.arr 4 ((rows.take (0 + n)).drop 0 ++ [evR r b]))).set g (.cs [.ms (.g (h.next + 1)) 4 0 (n + 1), .i .i64 64, .i .i64 base, .i .i64 last])).set g (.cs [.ms (.g (h.next + 1)) 4 0 (n + 1), .i .i64 64, .i .i64 base, .i .i64 r])) g (h.next + 1) (n + 1) r :=
        ⟨by show g < h.next + 1 + 1; omega, by show h.next + 1 < h.next + 1 + 1; omega, base, .inr ⟨_, by omega, by simp; omega, Heap.get_set_self (Heap.get_set_self (p3 _ _)), Heap.gs (by omega) (Heap.gs (by omega) (Heap.get_push_self _ _))⟩⟩
      exact hK _ _ hat (.inr (by omega)) ((((((Heap.Keeps.refl _ h).push _).remove (.inl (.inr rfl))).push _).set (.inl (.inl rfl)) _).set (.inl (.inl rfl)) _)
end
end Go.Eng
