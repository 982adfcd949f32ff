/-
One who elects: what it wants, what it hears.
-/
import Derived.Test.YtomcdckppplieaaGreatEl2
set_option linter.unusedVariables false
set_option linter.unusedSimpArgs false
namespace Go.Eng
open Go
theorem wantsE_out (e : ElD) (now : Int) (b : Bool) : wantsE { e with out := b } now = wantsE e now := rfl
section
variable {P : Program} (hG : FnsOk P AF.fns.get)
include hG
set_option maxHeartbeats 8000000 in
theorem want_at {h : Heap} {a : Nat} {e : ElD} (ha : h.get a = some (.cs (electR e))) (hok : e.ok) {now : Int} (hn : TimeOk now) (n : Nat) (hme : e.me = n) (hn7 : n ≤ 7) {K : V → Heap → Prop}
    (hno : ∀ h' e', h'.get a = some (.cs (electR e')) → (e' = e ∧ e.out = true ∨ e' = { e with out := false } ∧ wantsE e now = false) → Heap.Keeps (fun j => j = a) h h' → K (.tup [.agg [.nils, .nils], .b false]) h')
    (hK : wantsE e now = true → (e.out = true → 200 ≤ now - e.sent) → ∀ h', h'.get a = some (.cs (electR { e with out := true, sent := now })) → Heap.Keeps (fun j => j = a) h h' → K (.tup [txnV e.rev (leaseB e.me), .b true]) h') :
    ACall P 15 [.p (.g a) 0, .i .i64 now] h K := by
  have hla := late_ok hG now e.sent hn hok.sent
  have a1 : (h.set a (.cs (electR { e with out := false }))).get a = some (.cs (electR { e with out := false })) := Heap.get_set_self ha
  have hw := fun K => wants_at hG (K := K) a1 ⟨hok.since, hok.sent, hok.frm, hok.dur⟩ hn
  rw [wantsE_out] at hw
  have hkey := keyl_ok hG
  have hput := putl_ok hG n hn7
  rw [← hme] at hput
  have k1 : ∀ o, Heap.Keeps (fun j => j = a) h (h.set a o) := fun o => (Heap.Keeps.refl (fun j => j = a) h).set (.inl rfl) o
  have hgo : (e.out = true → 200 ≤ now - e.sent) → ACall P 15 [.p (.g a) 0, .i .i64 now] h K := fun hlt => by
    cases hW : wantsE e now with
    | false =>
      rw [hW] at hw
      have hN := hno _ _ a1 (.inr ⟨rfl, hW⟩) (k1 _)
      obtain ⟨me, seen, there, rev, holder, dur, since, out, sent, term, frm⟩ := e
      cases out
      · refine fn_sp (hG _ AF.f15 rfl) rfl ?_
        ((conv => whnf); repeat ((first | refine SCall.app (hw _) ?_ | refine SEx.of (ha) ?_ | refine SEx.of (a1) ?_ | refine yf rfl ?_ | refine yt rfl ?_ | refine yo rfl ?_ | refine yc rfl ?_ | refine ys rfl ?_ | refine ye rfl ?_ | refine yn rfl ?_ | refine zw ?_ | refine zdt ?_ | refine zdf ?_ | refine znt ?_ | refine znf ?_ | refine zcd ?_ | refine zci ?_ | refine zc3 ?_) <;> (conv => whnf)))
        exact hN
      · rw [decide_eq_true (hlt rfl)] at hla
        refine fn_sp (hG _ AF.f15 rfl) rfl ?_
        ((conv => whnf); repeat ((first | refine SCall.app (hw _) ?_ | refine SCall.app (Pure.go hla rfl) ?_ | refine SEx.of (ha) ?_ | refine SEx.of (a1) ?_ | refine yf rfl ?_ | refine yt rfl ?_ | refine yo rfl ?_ | refine yc rfl ?_ | refine ys rfl ?_ | refine ye rfl ?_ | refine yn rfl ?_ | refine zw ?_ | refine zdt ?_ | refine zdf ?_ | refine znt ?_ | refine znf ?_ | refine zcd ?_ | refine zci ?_ | refine zc3 ?_) <;> (conv => whnf)))
        exact hN
    | true =>
      rw [hW] at hw
      obtain ⟨me, seen, there, rev, holder, dur, since, out, sent, term, frm⟩ := e
      have hgo2 : ∀ o o', ((((h.set a (.cs (electR ⟨me, seen, there, rev, holder, dur, since, false, sent, term, frm⟩))).set a o).set a o')).get a = some o' := fun o o' => Heap.get_set_self (Heap.get_set_self a1)
      have hN := hK hW hlt _ (hgo2 (.cs (electR ⟨me, seen, there, rev, holder, dur, since, true, sent, term, frm⟩)) (.cs (electR ⟨me, seen, there, rev, holder, dur, since, true, now, term, frm⟩))) (((k1 _).set (.inl rfl) _).set (.inl rfl) _)
      cases out
      · refine fn_sp (hG _ AF.f15 rfl) rfl ?_
        ((conv => whnf); repeat ((first | refine SCall.app (hw _) ?_ | refine SCall.app (Pure.go hkey rfl) ?_ | refine SCall.app (Pure.go hput rfl) ?_ | refine SEx.of (ha) ?_ | refine SEx.of (a1) ?_ | refine SEx.of (Heap.get_set_self a1) ?_ | refine SEx.of (hgo2 _ _) ?_ | refine yf rfl ?_ | refine yt rfl ?_ | refine yo rfl ?_ | refine yc rfl ?_ | refine ys rfl ?_ | refine ye rfl ?_ | refine yn rfl ?_ | refine zw ?_ | refine zdt ?_ | refine zdf ?_ | refine znt ?_ | refine znf ?_ | refine zcd ?_ | refine zci ?_ | refine zc3 ?_) <;> (conv => whnf)))
        exact hN
      · rw [decide_eq_true (hlt rfl)] at hla
        refine fn_sp (hG _ AF.f15 rfl) rfl ?_
        ((conv => whnf); repeat ((first | refine SCall.app (hw _) ?_ | refine SCall.app (Pure.go hla rfl) ?_ | refine SCall.app (Pure.go hkey rfl) ?_ | refine SCall.app (Pure.go hput rfl) ?_ | refine SEx.of (ha) ?_ | refine SEx.of (a1) ?_ | refine SEx.of (Heap.get_set_self a1) ?_ | refine SEx.of (hgo2 _ _) ?_ | refine yf rfl ?_ | refine yt rfl ?_ | refine yo rfl ?_ | refine yc rfl ?_ | refine ys rfl ?_ | refine ye rfl ?_ | refine yn rfl ?_ | refine zw ?_ | refine zdt ?_ | refine zdf ?_ | refine znt ?_ | refine znf ?_ | refine zcd ?_ | refine zci ?_ | refine zc3 ?_) <;> (conv => whnf)))
        exact hN
  by_cases hlt : e.out = true → 200 ≤ now - e.sent
  · exact hgo hlt
  · have ho : e.out = true := by
      cases ho : e.out with
      | true => rfl
      | false => exact absurd (fun h => by rw [ho] at h; cases h) hlt
    have hl2 : ¬ 200 ≤ now - e.sent := fun h => hlt fun _ => h
    rw [decide_eq_false hl2] at hla
    have hN := hno h e ha (.inl ⟨rfl, ho⟩) (Heap.Keeps.refl _ h)
    obtain ⟨me, seen, there, rev, holder, dur, since, out, sent, term, frm⟩ := e
    dsimp only at ho
    subst ho
    refine fn_sp (hG _ AF.f15 rfl) rfl ?_
    ((conv => whnf); repeat ((first | refine SCall.app (Pure.go hla rfl) ?_ | refine SEx.of (ha) ?_ | refine yf rfl ?_ | refine yt rfl ?_ | refine yo rfl ?_ | refine yc rfl ?_ | refine ys rfl ?_ | refine ye rfl ?_ | refine yn rfl ?_ | refine zw ?_ | refine zdt ?_ | refine zdf ?_ | refine znt ?_ | refine znf ?_ | refine zcd ?_ | refine zci ?_ | refine zc3 ?_) <;> (conv => whnf)))
    exact hN
set_option maxHeartbeats 8000000 in
theorem told_at {h : Heap} {a : Nat} {e : ElD} (ha : h.get a = some (.cs (electR e))) (hout : e.out = true) (now rev : Int) {K : V → Heap → Prop}
    (hK : ∀ h', h'.get a = some (.cs (electR (toldOk e now rev))) → Heap.Keeps (fun j => j = a) h h' → K (.tup []) h') : ACall P 17 [.p (.g a) 0, .i .i64 now, .i .i64 rev, .i .i64 0] h K := by
  obtain ⟨me, seen, there, rv, holder, dur, since, out, sent, term, frm⟩ := e
  dsimp only at hout
  subst hout
  have s1 : ∀ o, (h.set a o).get a = some o := fun o => Heap.get_set_self ha
  have s2 : ∀ o1 o2, ((h.set a o1).set a o2).get a = some o2 := fun o1 o2 => Heap.get_set_self (s1 _)
  have s3 : ∀ o1 o2 o3, (((h.set a o1).set a o2).set a o3).get a = some o3 := fun o1 o2 o3 => Heap.get_set_self (s2 _ _)
  have s4 : ∀ o1 o2 o3 o4, ((((h.set a o1).set a o2).set a o3).set a o4).get a = some o4 := fun o1 o2 o3 o4 => Heap.get_set_self (s3 _ _ _)
  have s5 : ∀ o1 o2 o3 o4 o5, (((((h.set a o1).set a o2).set a o3).set a o4).set a o5).get a = some o5 := fun o1 o2 o3 o4 o5 => Heap.get_set_self (s4 _ _ _ _)
  have s6 : ∀ o1 o2 o3 o4 o5 o6, ((((((h.set a o1).set a o2).set a o3).set a o4).set a o5).set a o6).get a = some o6 := fun o1 o2 o3 o4 o5 o6 => Heap.get_set_self (s5 _ _ _ _ _)
  have s7 : ∀ o1 o2 o3 o4 o5 o6 o7, (((((((h.set a o1).set a o2).set a o3).set a o4).set a o5).set a o6).set a o7).get a = some o7 := fun o1 o2 o3 o4 o5 o6 o7 => Heap.get_set_self (s6 _ _ _ _ _ _)
  have s8 : ∀ o1 o2 o3 o4 o5 o6 o7 o8, ((((((((h.set a o1).set a o2).set a o3).set a o4).set a o5).set a o6).set a o7).set a o8).get a = some o8 := fun o1 o2 o3 o4 o5 o6 o7 o8 => Heap.get_set_self (s7 _ _ _ _ _ _ _)
  have hN := fun o1 o2 o3 o4 o5 o6 o7 => hK _ (s8 o1 o2 o3 o4 o5 o6 o7 _) ((((((((((Heap.Keeps.refl (fun j => j = a) h).set (.inl rfl) _).set (.inl rfl) _).set (.inl rfl) _).set (.inl rfl) _).set (.inl rfl) _).set (.inl rfl) _).set (.inl rfl) _).set (.inl rfl) _))
  refine fn_sp (hG _ AF.f17 rfl) rfl ?_
  ((conv => whnf); repeat ((first | refine SEx.of (ha) ?_ | refine SEx.of (s1 _) ?_ | refine SEx.of (s2 _ _) ?_ | refine SEx.of (s3 _ _ _) ?_ | refine SEx.of (s4 _ _ _ _) ?_ | refine SEx.of (s5 _ _ _ _ _) ?_ | refine SEx.of (s6 _ _ _ _ _ _) ?_ | refine SEx.of (s7 _ _ _ _ _ _ _) ?_ | refine SEx.of (s8 _ _ _ _ _ _ _ _) ?_ | refine yf rfl ?_ | refine yt rfl ?_ | refine yo rfl ?_ | refine yc rfl ?_ | refine ys rfl ?_ | refine ye rfl ?_ | refine yn rfl ?_ | refine zw ?_ | refine zdt ?_ | refine zdf ?_ | refine znt ?_ | refine znf ?_ | refine zcd ?_ | refine zci ?_ | refine zc3 ?_) <;> (conv => whnf)))
  exact hN _ _ _ _ _ _ _
end
end Go.Eng
