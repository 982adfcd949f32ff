/-
The log: an event is laid behind, and the first one goes where there are too many.
-/
import Derived.Test.YtomcdckppplieaaGreatLo1
set_option linter.unusedVariables false
set_option linter.unusedSimpArgs false
namespace Go.Eng
open Go
/-- The log at `g`, with its events. -/
structure LogE (h : Heap) (g c : Nat) (L : List EvD) (last : Int) : Prop where
  lg : g < h.next
  lc : c < h.next
  inc : L.Pairwise fun a b => a.1 < b.1
  top : ∀ x ∈ L, x.1 ≤ last
  at_ : ∃ base, (L = [] ∧ c = g ∧ h.get g = some (.cs [.nils, .i .i64 64, .i .i64 base, .i .i64 last])) ∨
    ∃ J, c ≠ g ∧ h.get g = some (.cs [.ms (.g c) 4 0 L.length, .i .i64 64, .i .i64 base, .i .i64 last]) ∧ h.get c = some (.arr 4 (L.map evL ++ J))
theorem LogE.keep {h h' : Heap} {g c : Nat} {L : List EvD} {last : Int} (hl : LogE h g c L last) (hn : h.next ≤ h'.next) (e1 : h'.get g = h.get g) (e2 : h'.get c = h.get c) : LogE h' g c L last := by
  obtain ⟨h1, h2, hi, ht, base, h3⟩ := hl
  refine ⟨by omega, by omega, hi, ht, base, ?_⟩
  rcases h3 with h3 | ⟨J, h3, h4, h5⟩
  · exact .inl ⟨h3.1, h3.2.1, e1.trans h3.2.2⟩
  · exact .inr ⟨J, h3, e1.trans h4, e2.trans h5⟩
section
variable {P : Program} (hG : FnsOk P AF.fns.get)
include hG
set_option maxHeartbeats 4000000 in
theorem cut_at {h : Heap} {g c : Nat} {e : EvD} {R : List EvD} {last : Int} (hl : LogE h g c (e :: R) last) (h1000 : R.length ≤ 1000) {K : V → Heap → Prop}
    (hK : ∀ h', LogE h' g c R last → Heap.Keeps (fun j => j = g ∨ j = c) h h' → K (.tup []) h') : ACall P 95 [.p (.g g) 0, .i .i64 e.1] h K := by
  obtain ⟨hlg, hlc, hinc, htop, base, ⟨h1, _⟩ | ⟨J, hcg, hg, hc⟩⟩ := hl
  · cases h1
  · rw [List.pairwise_cons] at hinc
    have hgn : g ≠ h.next := by omega
    have hcn : c ≠ h.next := by omega
    have hgc : g ≠ c := fun e => hcg e.symm
    have hcp : (h.push (.cs [.i .i64 e.1])).get c = some (.arr 4 ((e :: R).map evL ++ J)) := Heap.gp hcn hc
    have hkp : (h.push (.cs [.i .i64 e.1])).get h.next = some (.cs [.i .i64 e.1]) := Heap.get_push_self _ _
    have hgp : (h.push (.cs [.i .i64 e.1])).get g = some (.cs [.ms (.g c) 4 0 (R.length + 1), .i .i64 64, .i .i64 base, .i .i64 last]) := Heap.gp hgn hg
    have hdel := fun (K : V → Heap → Prop) => delf_at hG hcp hkp (fun e => hcn e.symm) h1000 (fun x hx => hinc.1 x hx) (K := K)
    refine fn_sv (hG _ AF.f95 rfl) rfl ?_
    ((conv => whnf); repeat ((first | refine SCall.app (hdel _) ?_ | refine SEx.of (hgp) ?_ | refine SEx.of (hkp) ?_ | refine yf rfl ?_ | refine yt rfl ?_ | refine yo rfl ?_ | refine yc rfl ?_ | refine ys rfl ?_ | refine ye rfl ?_ | refine yn rfl ?_ | refine zw ?_ | refine zdt ?_ | refine zdf ?_ | refine znt ?_ | refine znf ?_ | refine zcd ?_ | refine zci ?_ | refine zc3 ?_) <;> (conv => whnf)))
    intro h1 hc1 hn1 hs1
    have hg1 := (hs1 g hgc).trans hgp
    have hk1 := (hs1 h.next (fun e => hcn e.symm)).trans hkp
    have g2 : ∀ o, (h1.set g o).get g = some o := fun o => Heap.get_set_self hg1
    have g3 : ∀ o o2, ((h1.set g o).set g o2).get g = some o2 := fun o o2 => Heap.get_set_self (g2 _)
    have k2 : ∀ o, (h1.set g o).get h.next = some (.cs [.i .i64 e.1]) := fun o => Heap.gs hgn.symm hk1
    obtain ⟨z1, hz1⟩ : ∃ z, (if last < e.1 then last else e.1) = z := ⟨_, rfl⟩
    obtain ⟨z2, hz2⟩ : ∃ z, (if base < z1 then z1 else base) = z := ⟨_, rfl⟩
    have hn2 : ((h1.set g (.cs [.ms (.g c) 4 0 R.length, .i .i64 64, .i .i64 base, .i .i64 last])).set g (.cs [.ms (.g c) 4 0 R.length, .i .i64 64, .i .i64 z2, .i .i64 last])).next = h.next + 1 := hn1
    have hat : LogE ((h1.set g (.cs [.ms (.g c) 4 0 R.length, .i .i64 64, .i .i64 base, .i .i64 last])).set g (.cs [.ms (.g c) 4 0 R.length, .i .i64 64, .i .i64 z2, .i .i64 last])) g c R last :=
      ⟨by omega, by omega, hinc.2, fun x hx => htop x (.tail _ hx), z2, .inr ⟨[zeroE] ++ J, hcg, g3 _ _, by rw [← List.append_assoc]; exact Heap.gs hcg (Heap.gs hcg hc1)⟩⟩
    have hkeep : Heap.Keeps (fun j => j = g ∨ j = c) h ((h1.set g (.cs [.ms (.g c) 4 0 R.length, .i .i64 64, .i .i64 base, .i .i64 last])).set g (.cs [.ms (.g c) 4 0 R.length, .i .i64 64, .i .i64 z2, .i .i64 last])) :=
      ⟨by omega, fun n hn hb => (Heap.get_set_ne (fun e => hb (.inl e))).trans ((Heap.get_set_ne (fun e => hb (.inl e))).trans ((hs1 n (fun e => hb (.inr e))).trans (Heap.get_push_ne (by omega))))⟩
    ((conv => whnf); repeat ((first | refine SOpt.of (mn2 hz1) ?_ | refine SOpt.of (mx2 hz2) ?_ | refine SEx.of (hg1) ?_ | refine SEx.of (hk1) ?_ | refine SEx.of (g2 _) ?_ | refine SEx.of (k2 _) ?_ | refine yf rfl ?_ | refine yt rfl ?_ | refine yo rfl ?_ | refine yc rfl ?_ | refine ys rfl ?_ | refine ye rfl ?_ | refine yn rfl ?_ | refine zw ?_ | refine zdt ?_ | refine zdf ?_ | refine znt ?_ | refine znf ?_ | refine zcd ?_ | refine zci ?_ | refine zc3 ?_) <;> (conv => whnf)))
    exact hK _ hat hkeep
end
end Go.Eng
