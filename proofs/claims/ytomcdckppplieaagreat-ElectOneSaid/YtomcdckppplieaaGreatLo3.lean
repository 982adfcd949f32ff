/-
The log: an event is laid behind, however full it is.
-/
import Derived.Test.YtomcdckppplieaaGreatLo2
set_option linter.unusedVariables false
set_option linter.unusedSimpArgs false
namespace Go.Eng
open Go
theorem rowE_put {L : List EvD} {J : List (List V)} {v : List V} {n : Nat} (hn : n = L.length) (hJ : 0 < J.length) : (L.map evL ++ J).take (0 + n) ++ [v] ++ (L.map evL ++ J).drop (0 + n + 1) = L.map evL ++ [v] ++ J.drop 1 := by
  subst hn
  rw [Nat.zero_add, List.take_left' (by rw [List.length_map]), List.drop_append, List.drop_of_length_le (by rw [List.length_map]; omega), List.length_map, show L.length + 1 - L.length = 1 by omega, List.nil_append]
theorem rowE_new {L : List EvD} {J : List (List V)} {v : List V} {n : Nat} (hn : n = L.length) : ((L.map evL ++ J).take (0 + n)).drop 0 ++ [v] = L.map evL ++ [v] := by
  subst hn
  rw [Nat.zero_add, List.take_left' (by rw [List.length_map]), List.drop_zero]
section
variable {P : Program} (hG : FnsOk P AF.fns.get)
include hG
set_option maxHeartbeats 16000000 in
theorem add_full {h : Heap} {g c : Nat} {L : List EvD} {last r : Int} {b : List Int} (hl : LogE h g c L last) (hr : last < r) (h64 : L.length ≤ 64) (hb : b.length ≤ 10000) {K : V → Heap → Prop}
    (hK : ∀ h' c' L', LogE h' g c' L' r → L'.length ≤ 64 → (c' = c ∨ h.next ≤ c') → Heap.Keeps (fun j => j = g ∨ j = c) h h' → K (.b true) h') :
    ACall P 57 [.p (.g g) 0, .sl none 4 [evR r b]] h K := by
  have hcop := lcopied_ok hG r b (by omega)
  obtain ⟨hlg, hlc, hinc, htop, base, hat⟩ := hl
  obtain ⟨e, R, heR⟩ : ∃ e R, L ++ [(r, b)] = e :: R := by
    cases L with
    | nil => exact ⟨_, _, rfl⟩
    | cons a t => exact ⟨_, _, rfl⟩
  have hlR : R.length = L.length := by have := congrArg List.length heR; simp at this; omega
  have hincR : (e :: R).Pairwise fun a b => a.1 < b.1 := by
    rw [← heR, List.pairwise_append]
    exact ⟨hinc, List.pairwise_singleton _ _, fun x hx y hy => by rw [List.mem_singleton.1 hy]; have := htop x hx; dsimp only; omega⟩
  have htopR : ∀ x ∈ e :: R, x.1 ≤ r := fun x hx => by
    rw [← heR] at hx
    rcases List.mem_append.1 hx with hx | hx
    · have := htop x hx; omega
    · rw [List.mem_singleton.1 hx]; exact Int.le_refl _
  have hrowR : L.map evL ++ [evR r b] = (e :: R).map evL := by rw [← heR, List.map_append]; rfl
  rcases hat with ⟨rfl, rfl, h1⟩ | ⟨J, hcg, h1, h2⟩
  · have hR0 : R = [] := List.length_eq_zero_iff.1 hlR
    subst hR0
    have hne : c ≠ h.next := by omega
    have g1 : ∀ o, (h.push o).get h.next = some o := fun o => Heap.get_push_self h o
    have p1 : ∀ o, (h.push o).get c = some (.cs [.nils, .i .i64 64, .i .i64 base, .i .i64 last]) := fun o => Heap.gp hne h1
    have p2 : ∀ o o', ((h.push o).push o').get c = some (.cs [.nils, .i .i64 64, .i .i64 base, .i .i64 last]) := fun o o' => Heap.gp (by rw [Heap.next_push]; omega) (p1 o)
    have hat : LogE ((((h.push (.arr 4 [evR r b])).push (.arr 4 [evR r b])).set c (.cs [.ms (.g (h.next + 1)) 4 0 1, .i .i64 64, .i .i64 base, .i .i64 last])).set c (.cs [.ms (.g (h.next + 1)) 4 0 1, .i .i64 64, .i .i64 base, .i .i64 r])) c (h.next + 1) [(r, b)] r :=
      ⟨by show c < h.next + 1 + 1; omega, by show h.next + 1 < h.next + 1 + 1; omega, List.pairwise_singleton _ _, fun x hx => by rw [List.mem_singleton.1 hx]; exact Int.le_refl _, base, .inr ⟨[], by omega, Heap.get_set_self (Heap.get_set_self (p2 _ _)), Heap.gs (by omega) (Heap.gs (by omega) (Heap.get_push_self _ _))⟩⟩
    refine fn_sv (hG _ AF.f57 rfl) rfl ?_
    ((conv => whnf); repeat ((first | refine SLoopV.un rfl ?_ | refine w64q (m := 0) rfl (by decide) (by decide) ?_ | refine SCall.app (Pure.go hcop rfl) ?_ | refine SEx.of (h1) ?_ | refine SEx.of (g1 _) ?_ | refine SEx.of (p1 _) ?_ | refine SEx.of (p2 _ _) ?_ | refine SEx.of (Heap.get_set_self (p2 _ _)) ?_ | refine SEx.of (Heap.get_set_self (Heap.get_set_self (p2 _ _))) ?_ | refine yf rfl ?_ | refine yt rfl ?_ | refine yo rfl ?_ | refine yc rfl ?_ | refine ys rfl ?_ | refine ye rfl ?_ | refine yn rfl ?_ | refine zw ?_ | refine zdt ?_ | refine zdf ?_ | refine znt ?_ | refine znf ?_ | refine zcd ?_ | refine zci ?_ | refine zc3 ?_) <;> (conv => whnf)))
    exact hK _ _ _ hat (by simp) (.inr (by omega)) (((((Heap.Keeps.refl _ h).push _).push _).set (.inl (.inl rfl)) _).set (.inl (.inl rfl)) _)
  · have hne : g ≠ h.next := by omega
    have hne2 : c ≠ h.next := by omega
    have hgc : g ≠ c := fun e => hcg e.symm
    have g1 : ∀ o, (h.push o).get h.next = some o := fun o => Heap.get_push_self h o
    have p1 : ∀ o, (h.push o).get g = some (.cs [.ms (.g c) 4 0 L.length, .i .i64 64, .i .i64 base, .i .i64 last]) := fun o => Heap.gp hne h1
    have p2 : ∀ o, (h.push o).get c = some (.arr 4 (L.map evL ++ J)) := fun o => Heap.gp hne2 h2
    have hrl : (L.map evL ++ J).length = L.length + J.length := by rw [List.length_append, List.length_map]
    by_cases hroom : 0 + L.length + 1 ≤ (L.map evL ++ J).length
    · have hput := rowE_put (L := L) (J := J) (v := evR r b) rfl (by omega)
      rw [hrowR] at hput
      have p3 : ∀ o o', ((h.push o).set c o').get g = some (.cs [.ms (.g c) 4 0 L.length, .i .i64 64, .i .i64 base, .i .i64 last]) := fun o o' => Heap.gs hgc (p1 o)
      have p4 : ∀ o o' o2 o3, ((((h.push o).set c o').set g o2).set g o3).get c = some o' := fun o o' o2 o3 => Heap.gs hcg (Heap.gs hcg (Heap.get_set_self (p2 _)))
      have hat : LogE ((((h.push (.arr 4 [evR r b])).set c (.arr 4 ((e :: R).map evL ++ J.drop 1))).set g (.cs [.ms (.g c) 4 0 (L.length + 1), .i .i64 64, .i .i64 base, .i .i64 last])).set g (.cs [.ms (.g c) 4 0 (L.length + 1), .i .i64 64, .i .i64 base, .i .i64 r])) g c (e :: R) r :=
        ⟨by show g < h.next + 1; omega, by show c < h.next + 1; omega, hincR, htopR, base, .inr ⟨J.drop 1, hcg, by rw [← hlR]; exact Heap.get_set_self (Heap.get_set_self (p3 _ _)), p4 _ _ _ _⟩⟩
      have hkp : Heap.Keeps (fun j => j = g ∨ j = c) h ((((h.push (.arr 4 [evR r b])).set c (.arr 4 ((e :: R).map evL ++ J.drop 1))).set g (.cs [.ms (.g c) 4 0 (L.length + 1), .i .i64 64, .i .i64 base, .i .i64 last])).set g (.cs [.ms (.g c) 4 0 (L.length + 1), .i .i64 64, .i .i64 base, .i .i64 r])) :=
        (((((Heap.Keeps.refl _ h).push _).set (.inl (.inr rfl)) _).set (.inl (.inl rfl)) _).set (.inl (.inl rfl)) _)
      have hcut := fun K => cut_at hG hat (by omega) (K := K)
      by_cases hfull : L.length = 64
      · refine fn_sv (hG _ AF.f57 rfl) rfl ?_
        ((conv => whnf); repeat ((first | refine SLoopV.un rfl ?_ | refine w64q (m := 0) rfl (by decide) (by decide) ?_ | refine SCall.app (Pure.go hcop rfl) ?_ | refine SChk.mk (by simp [roomOk]; omega) ?_ | refine SChk.mk (decide_eq_true (show 0 + L.length ≤ (L.map evL ++ J).length by omega)) ?_ | refine SIf.dt hroom ?_ | refine SIf.dt (show (64 : Int) < ((L.length + 1 : Nat) : Int) by omega) ?_ | refine SEx.of (congrArg some hput) ?_ | refine SCall.app (hcut _) ?_ | refine SEx.of (h1) ?_ | refine SEx.of (h2) ?_ | refine SEx.of (g1 _) ?_ | refine SEx.of (p1 _) ?_ | refine SEx.of (p2 _) ?_ | refine SEx.of (p3 _ _) ?_ | refine SEx.of (Heap.get_set_self (p3 _ _)) ?_ | refine SEx.of (Heap.get_set_self (Heap.get_set_self (p3 _ _))) ?_ | refine SEx.of (p4 _ _ _ _) ?_ | refine yf rfl ?_ | refine yt rfl ?_ | refine yo rfl ?_ | refine yc rfl ?_ | refine ys rfl ?_ | refine ye rfl ?_ | refine yn rfl ?_ | refine zw ?_ | refine zdt ?_ | refine zdf ?_ | refine znt ?_ | refine znf ?_ | refine zcd ?_ | refine zci ?_ | refine zc3 ?_) <;> (conv => whnf)))
        intro h' hE' k'
        obtain ⟨hlg', hlc', hi', ht', base', ⟨hRn, _⟩ | ⟨J', hcg', hg', hc'⟩⟩ := hE'
        · subst hRn
          simp at hlR
          omega
        · ((conv => whnf); repeat ((first | refine SLoopV.un rfl ?_ | refine SIf.df (show ¬ (64 : Int) < ((R.length : Nat) : Int) by omega) ?_ | refine SEx.of (hg') ?_ | refine yf rfl ?_ | refine yt rfl ?_ | refine yo rfl ?_ | refine yc rfl ?_ | refine ys rfl ?_ | refine ye rfl ?_ | refine yn rfl ?_ | refine zw ?_ | refine zdt ?_ | refine zdf ?_ | refine znt ?_ | refine znf ?_ | refine zcd ?_ | refine zci ?_ | refine zc3 ?_) <;> (conv => whnf)))
          exact hK _ _ _ ⟨hlg', hlc', hi', ht', base', .inr ⟨J', hcg', hg', hc'⟩⟩ (by omega) (.inl rfl) (hkp.trans (k'.mono fun j _ hj => hj))
      · refine fn_sv (hG _ AF.f57 rfl) rfl ?_
        ((conv => whnf); repeat ((first | refine SLoopV.un rfl ?_ | refine w64q (m := 0) rfl (by decide) (by decide) ?_ | refine SCall.app (Pure.go hcop rfl) ?_ | refine SChk.mk (by simp [roomOk]; omega) ?_ | refine SChk.mk (decide_eq_true (show 0 + L.length ≤ (L.map evL ++ J).length by omega)) ?_ | refine SIf.dt hroom ?_ | refine SIf.df (show ¬ (64 : Int) < ((L.length + 1 : Nat) : Int) by omega) ?_ | refine SEx.of (congrArg some hput) ?_ | refine SEx.of (h1) ?_ | refine SEx.of (h2) ?_ | refine SEx.of (g1 _) ?_ | refine SEx.of (p1 _) ?_ | refine SEx.of (p2 _) ?_ | refine SEx.of (p3 _ _) ?_ | refine SEx.of (Heap.get_set_self (p3 _ _)) ?_ | refine SEx.of (Heap.get_set_self (Heap.get_set_self (p3 _ _))) ?_ | refine yf rfl ?_ | refine yt rfl ?_ | refine yo rfl ?_ | refine yc rfl ?_ | refine ys rfl ?_ | refine ye rfl ?_ | refine yn rfl ?_ | refine zw ?_ | refine zdt ?_ | refine zdf ?_ | refine znt ?_ | refine znf ?_ | refine zcd ?_ | refine zci ?_ | refine zc3 ?_) <;> (conv => whnf)))
        exact hK _ _ _ hat (by rw [List.length_cons]; omega) (.inl rfl) hkp
    · have hJ : J = [] := List.length_eq_zero_iff.1 (by omega)
      subst hJ
      have hput := rowE_new (L := L) (J := []) (v := evR r b) rfl
      rw [hrowR] at hput
      have p3 : ∀ o o', (((h.push o).remove c).push o').get g = some (.cs [.ms (.g c) 4 0 L.length, .i .i64 64, .i .i64 base, .i .i64 last]) := fun o o' => Heap.gp (by rw [Heap.next_remove, Heap.next_push]; omega) (Heap.gr hgc (p1 o))
      have p4 : ∀ o o' o2 o3, (((((h.push o).remove c).push o').set g o2).set g o3).get (h.next + 1) = some o' := fun o o' o2 o3 => Heap.gs (by omega) (Heap.gs (by omega) (Heap.get_push_self _ _))
      have hat : LogE (((((h.push (.arr 4 [evR r b])).remove c).push (.arr 4 ((e :: R).map evL))).set g (.cs [.ms (.g (h.next + 1)) 4 0 (L.length + 1), .i .i64 64, .i .i64 base, .i .i64 last])).set g (.cs [.ms (.g (h.next + 1)) 4 0 (L.length + 1), .i .i64 64, .i .i64 base, .i .i64 r])) g (h.next + 1) (e :: R) r :=
        ⟨by show g < h.next + 1 + 1; omega, by show h.next + 1 < h.next + 1 + 1; omega, hincR, htopR, base, .inr ⟨[], by omega, by rw [← hlR]; exact Heap.get_set_self (Heap.get_set_self (p3 _ _)), by rw [List.append_nil]; exact p4 _ _ _ _⟩⟩
      have hkp : Heap.Keeps (fun j => j = g ∨ j = c) h (((((h.push (.arr 4 [evR r b])).remove c).push (.arr 4 ((e :: R).map evL))).set g (.cs [.ms (.g (h.next + 1)) 4 0 (L.length + 1), .i .i64 64, .i .i64 base, .i .i64 last])).set g (.cs [.ms (.g (h.next + 1)) 4 0 (L.length + 1), .i .i64 64, .i .i64 base, .i .i64 r])) :=
        ((((((Heap.Keeps.refl _ h).push _).remove (.inl (.inr rfl))).push _).set (.inl (.inl rfl)) _).set (.inl (.inl rfl)) _)
      have hcut := fun K => cut_at hG hat (by omega) (K := K)
      by_cases hfull : L.length = 64
      · refine fn_sv (hG _ AF.f57 rfl) rfl ?_
        ((conv => whnf); repeat ((first | refine SLoopV.un rfl ?_ | refine w64q (m := 0) rfl (by decide) (by decide) ?_ | refine SCall.app (Pure.go hcop rfl) ?_ | refine SChk.mk (by simp [roomOk]; omega) ?_ | refine SChk.mk (decide_eq_true (show 0 + L.length ≤ (L.map evL ++ J).length by omega)) ?_ | refine SIf.df hroom ?_ | refine SIf.dt (show (64 : Int) < ((L.length + 1 : Nat) : Int) by omega) ?_ | refine SEx.of (congrArg some hput) ?_ | refine SCall.app (hcut _) ?_ | refine SEx.of (h1) ?_ | refine SEx.of (h2) ?_ | refine SEx.of (g1 _) ?_ | refine SEx.of (p1 _) ?_ | refine SEx.of (p2 _) ?_ | refine SEx.of (p3 _ _) ?_ | refine SEx.of (Heap.get_set_self (p3 _ _)) ?_ | refine SEx.of (Heap.get_set_self (Heap.get_set_self (p3 _ _))) ?_ | refine SEx.of (p4 _ _ _ _) ?_ | refine yf rfl ?_ | refine yt rfl ?_ | refine yo rfl ?_ | refine yc rfl ?_ | refine ys rfl ?_ | refine ye rfl ?_ | refine yn rfl ?_ | refine zw ?_ | refine zdt ?_ | refine zdf ?_ | refine znt ?_ | refine znf ?_ | refine zcd ?_ | refine zci ?_ | refine zc3 ?_) <;> (conv => whnf)))
        intro h' hE' k'
        obtain ⟨hlg', hlc', hi', ht', base', ⟨hRn, _⟩ | ⟨J', hcg', hg', hc'⟩⟩ := hE'
        · subst hRn
          simp at hlR
          omega
        · ((conv => whnf); repeat ((first | refine SLoopV.un rfl ?_ | refine SIf.df (show ¬ (64 : Int) < ((R.length : Nat) : Int) by omega) ?_ | refine SEx.of (hg') ?_ | refine yf rfl ?_ | refine yt rfl ?_ | refine yo rfl ?_ | refine yc rfl ?_ | refine ys rfl ?_ | refine ye rfl ?_ | refine yn rfl ?_ | refine zw ?_ | refine zdt ?_ | refine zdf ?_ | refine znt ?_ | refine znf ?_ | refine zcd ?_ | refine zci ?_ | refine zc3 ?_) <;> (conv => whnf)))
          exact hK _ _ _ ⟨hlg', hlc', hi', ht', base', .inr ⟨J', hcg', hg', hc'⟩⟩ (by omega) (.inr (by omega)) ⟨Nat.le_trans hkp.next k'.next, fun n hn hb => (k'.same n (Nat.lt_of_lt_of_le hn hkp.next) (fun hj => hj.elim (fun e => hb (.inl e)) (fun e => absurd e (Nat.ne_of_lt (Nat.lt_succ_of_lt hn))))).trans (hkp.same n hn hb)⟩
      · refine fn_sv (hG _ AF.f57 rfl) rfl ?_
        ((conv => whnf); repeat ((first | refine SLoopV.un rfl ?_ | refine w64q (m := 0) rfl (by decide) (by decide) ?_ | refine SCall.app (Pure.go hcop rfl) ?_ | refine SChk.mk (by simp [roomOk]; omega) ?_ | refine SChk.mk (decide_eq_true (show 0 + L.length ≤ (L.map evL ++ J).length by omega)) ?_ | refine SIf.df hroom ?_ | refine SIf.df (show ¬ (64 : Int) < ((L.length + 1 : Nat) : Int) by omega) ?_ | refine SEx.of (congrArg some hput) ?_ | refine SEx.of (h1) ?_ | refine SEx.of (h2) ?_ | refine SEx.of (g1 _) ?_ | refine SEx.of (p1 _) ?_ | refine SEx.of (p2 _) ?_ | refine SEx.of (p3 _ _) ?_ | refine SEx.of (Heap.get_set_self (p3 _ _)) ?_ | refine SEx.of (Heap.get_set_self (Heap.get_set_self (p3 _ _))) ?_ | refine yf rfl ?_ | refine yt rfl ?_ | refine yo rfl ?_ | refine yc rfl ?_ | refine ys rfl ?_ | refine ye rfl ?_ | refine yn rfl ?_ | refine zw ?_ | refine zdt ?_ | refine zdf ?_ | refine znt ?_ | refine znf ?_ | refine zcd ?_ | refine zci ?_ | refine zc3 ?_) <;> (conv => whnf)))
        exact hK _ _ _ hat (by rw [List.length_cons]; omega) (.inr (by omega)) hkp
end
end Go.Eng
