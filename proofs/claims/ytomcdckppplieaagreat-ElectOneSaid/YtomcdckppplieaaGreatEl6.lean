/-
One who elects: what it sees.
-/
import Derived.Test.YtomcdckppplieaaGreatEl3
set_option linter.unusedVariables false
set_option linter.unusedSimpArgs false
namespace Go.Eng
open Go
section
variable {P : Program} (hG : FnsOk P AF.fns.get)
include hG
set_option maxHeartbeats 16000000 in
theorem see_at {h : Heap} {a : Nat} {e : ElD} (ha : h.get a = some (.cs (electR e))) (now rev holder dur : Int) (there : Bool) {K : V → Heap → Prop}
    (hK : ∀ h', h'.get a = some (.cs (electR (seeE e now rev holder dur there))) → Heap.Keeps (fun j => j = a) h h' → K (.tup []) h') : ACall P 14 [.p (.g a) 0, .i .i64 now, .i .i64 rev, .agg [.i .i64 holder, .i .i64 dur], .b there] h K := by
  have s1 : ∀ o, (h.set a o).get a = some o := fun o => Heap.get_set_self ha
  have s2 : ∀ o1 o2, ((h.set a o1).set a o2).get a = some o2 := fun o1 o2 => Heap.get_set_self (s1 _)
  have s3 : ∀ o1 o2 o3, (((h.set a o1).set a o2).set a o3).get a = some o3 := fun o1 o2 o3 => Heap.get_set_self (s2 _ _)
  have s4 : ∀ o1 o2 o3 o4, ((((h.set a o1).set a o2).set a o3).set a o4).get a = some o4 := fun o1 o2 o3 o4 => Heap.get_set_self (s3 _ _ _)
  have s5 : ∀ o1 o2 o3 o4 o5, (((((h.set a o1).set a o2).set a o3).set a o4).set a o5).get a = some o5 := fun o1 o2 o3 o4 o5 => Heap.get_set_self (s4 _ _ _ _)
  have s6 : ∀ o1 o2 o3 o4 o5 o6, ((((((h.set a o1).set a o2).set a o3).set a o4).set a o5).set a o6).get a = some o6 := fun o1 o2 o3 o4 o5 o6 => Heap.get_set_self (s5 _ _ _ _ _)
  have hN0 := hK h
  have hN4 := fun o1 o2 o3 o4 hE => hK ((((h.set a o1).set a o2).set a o3).set a o4) ((s4 o1 o2 o3 o4).trans hE) ((((((Heap.Keeps.refl (fun j => j = a) h).set (.inl rfl) _).set (.inl rfl) _).set (.inl rfl) _).set (.inl rfl) _))
  have hN5 := fun o1 o2 o3 o4 o5 hE => hK (((((h.set a o1).set a o2).set a o3).set a o4).set a o5) ((s5 o1 o2 o3 o4 o5).trans hE) (((((((Heap.Keeps.refl (fun j => j = a) h).set (.inl rfl) _).set (.inl rfl) _).set (.inl rfl) _).set (.inl rfl) _).set (.inl rfl) _))
  have hN6 := fun o1 o2 o3 o4 o5 o6 hE => hK ((((((h.set a o1).set a o2).set a o3).set a o4).set a o5).set a o6) ((s6 o1 o2 o3 o4 o5 o6).trans hE) ((((((((Heap.Keeps.refl (fun j => j = a) h).set (.inl rfl) _).set (.inl rfl) _).set (.inl rfl) _).set (.inl rfl) _).set (.inl rfl) _).set (.inl rfl) _))
  clear hK
  obtain ⟨me, seen, there0, rv, hd, du, since, out, sent, term, frm⟩ := e
  cases there
  · cases seen
    · by_cases c3 : 0 < term
      · have c4 : ¬ term < 0 := by omega
        have hE : seeE ⟨me, false, there0, rv, hd, du, since, out, sent, term, frm⟩ now rev holder dur false = ⟨me, true, false, 0, 0, 0, now, out, sent, term, frm⟩ := by simp [seeE, c3, c4]
        rw [hE] at hN5
        refine fn_sp (hG _ AF.f14 rfl) rfl ?_
        ((conv => whnf); repeat ((first | refine SCall.app (fn_sp (hG _ _ rfl) rfl) ?_ | refine SEx.of (ha) ?_ | refine SEx.of (s1 _) ?_ | refine SEx.of (s2 _ _) ?_ | refine SEx.of (s3 _ _ _) ?_ | refine SEx.of (s4 _ _ _ _) ?_ | refine SEx.of (s5 _ _ _ _ _) ?_ | refine SEx.of (s6 _ _ _ _ _ _) ?_ | refine yf rfl ?_ | refine yt rfl ?_ | refine yo rfl ?_ | refine yc rfl ?_ | refine ys rfl ?_ | refine ye rfl ?_ | refine yn rfl ?_ | refine zw ?_ | refine zdt ?_ | refine zdf ?_ | refine znt ?_ | refine znf ?_ | refine zcd ?_ | refine zci ?_ | refine zc3 ?_) <;> (conv => whnf)))
        exact hN5 _ _ _ _ _ rfl
      · have hE : seeE ⟨me, false, there0, rv, hd, du, since, out, sent, term, frm⟩ now rev holder dur false = ⟨me, true, false, 0, 0, 0, now, out, sent, term, frm⟩ := by simp [seeE, c3]
        rw [hE] at hN5
        refine fn_sp (hG _ AF.f14 rfl) rfl ?_
        ((conv => whnf); repeat ((first | refine SCall.app (fn_sp (hG _ _ rfl) rfl) ?_ | refine SEx.of (ha) ?_ | refine SEx.of (s1 _) ?_ | refine SEx.of (s2 _ _) ?_ | refine SEx.of (s3 _ _ _) ?_ | refine SEx.of (s4 _ _ _ _) ?_ | refine SEx.of (s5 _ _ _ _ _) ?_ | refine SEx.of (s6 _ _ _ _ _ _) ?_ | refine yf rfl ?_ | refine yt rfl ?_ | refine yo rfl ?_ | refine yc rfl ?_ | refine ys rfl ?_ | refine ye rfl ?_ | refine yn rfl ?_ | refine zw ?_ | refine zdt ?_ | refine zdf ?_ | refine znt ?_ | refine znf ?_ | refine zcd ?_ | refine zci ?_ | refine zc3 ?_) <;> (conv => whnf)))
        exact hN5 _ _ _ _ _ rfl
    · by_cases c1 : 0 < rv
      · have hE : seeE ⟨me, true, there0, rv, hd, du, since, out, sent, term, frm⟩ now rev holder dur false = ⟨me, true, there0, rv, hd, du, since, out, sent, term, frm⟩ := by simp [seeE, c1]
        rw [hE] at hN0
        refine fn_sp (hG _ AF.f14 rfl) rfl ?_
        ((conv => whnf); repeat ((first | refine SCall.app (fn_sp (hG _ _ rfl) rfl) ?_ | refine SEx.of (ha) ?_ | refine SEx.of (s1 _) ?_ | refine SEx.of (s2 _ _) ?_ | refine SEx.of (s3 _ _ _) ?_ | refine SEx.of (s4 _ _ _ _) ?_ | refine SEx.of (s5 _ _ _ _ _) ?_ | refine SEx.of (s6 _ _ _ _ _ _) ?_ | refine yf rfl ?_ | refine yt rfl ?_ | refine yo rfl ?_ | refine yc rfl ?_ | refine ys rfl ?_ | refine ye rfl ?_ | refine yn rfl ?_ | refine zw ?_ | refine zdt ?_ | refine zdf ?_ | refine znt ?_ | refine znf ?_ | refine zcd ?_ | refine zci ?_ | refine zc3 ?_) <;> (conv => whnf)))
        exact hN0 ha (Heap.Keeps.refl _ _)
      · by_cases c2 : 0 = rv
        · skip
          by_cases c3 : 0 < term
          · have c4 : ¬ term < 0 := by omega
            have hE : seeE ⟨me, true, there0, rv, hd, du, since, out, sent, term, frm⟩ now rev holder dur false = ⟨me, true, false, 0, 0, 0, since, out, sent, term, frm⟩ := by simp [seeE, c1, show rv = 0 by omega, c3, c4]
            rw [hE] at hN4
            refine fn_sp (hG _ AF.f14 rfl) rfl ?_
            ((conv => whnf); repeat ((first | refine SCall.app (fn_sp (hG _ _ rfl) rfl) ?_ | refine SEx.of (ha) ?_ | refine SEx.of (s1 _) ?_ | refine SEx.of (s2 _ _) ?_ | refine SEx.of (s3 _ _ _) ?_ | refine SEx.of (s4 _ _ _ _) ?_ | refine SEx.of (s5 _ _ _ _ _) ?_ | refine SEx.of (s6 _ _ _ _ _ _) ?_ | refine yf rfl ?_ | refine yt rfl ?_ | refine yo rfl ?_ | refine yc rfl ?_ | refine ys rfl ?_ | refine ye rfl ?_ | refine yn rfl ?_ | refine zw ?_ | refine zdt ?_ | refine zdf ?_ | refine znt ?_ | refine znf ?_ | refine zcd ?_ | refine zci ?_ | refine zc3 ?_) <;> (conv => whnf)))
            exact hN4 _ _ _ _ rfl
          · have hE : seeE ⟨me, true, there0, rv, hd, du, since, out, sent, term, frm⟩ now rev holder dur false = ⟨me, true, false, 0, 0, 0, since, out, sent, term, frm⟩ := by simp [seeE, c1, show rv = 0 by omega, c3]
            rw [hE] at hN4
            refine fn_sp (hG _ AF.f14 rfl) rfl ?_
            ((conv => whnf); repeat ((first | refine SCall.app (fn_sp (hG _ _ rfl) rfl) ?_ | refine SEx.of (ha) ?_ | refine SEx.of (s1 _) ?_ | refine SEx.of (s2 _ _) ?_ | refine SEx.of (s3 _ _ _) ?_ | refine SEx.of (s4 _ _ _ _) ?_ | refine SEx.of (s5 _ _ _ _ _) ?_ | refine SEx.of (s6 _ _ _ _ _ _) ?_ | refine yf rfl ?_ | refine yt rfl ?_ | refine yo rfl ?_ | refine yc rfl ?_ | refine ys rfl ?_ | refine ye rfl ?_ | refine yn rfl ?_ | refine zw ?_ | refine zdt ?_ | refine zdf ?_ | refine znt ?_ | refine znf ?_ | refine zcd ?_ | refine zci ?_ | refine zc3 ?_) <;> (conv => whnf)))
            exact hN4 _ _ _ _ rfl
        · by_cases c3 : 0 < term
          · have c4 : ¬ term < 0 := by omega
            have hE : seeE ⟨me, true, there0, rv, hd, du, since, out, sent, term, frm⟩ now rev holder dur false = ⟨me, true, false, 0, 0, 0, now, out, sent, term, frm⟩ := by simp [seeE, c1, c2, c3, c4]
            rw [hE] at hN5
            refine fn_sp (hG _ AF.f14 rfl) rfl ?_
            ((conv => whnf); repeat ((first | refine SCall.app (fn_sp (hG _ _ rfl) rfl) ?_ | refine SEx.of (ha) ?_ | refine SEx.of (s1 _) ?_ | refine SEx.of (s2 _ _) ?_ | refine SEx.of (s3 _ _ _) ?_ | refine SEx.of (s4 _ _ _ _) ?_ | refine SEx.of (s5 _ _ _ _ _) ?_ | refine SEx.of (s6 _ _ _ _ _ _) ?_ | refine yf rfl ?_ | refine yt rfl ?_ | refine yo rfl ?_ | refine yc rfl ?_ | refine ys rfl ?_ | refine ye rfl ?_ | refine yn rfl ?_ | refine zw ?_ | refine zdt ?_ | refine zdf ?_ | refine znt ?_ | refine znf ?_ | refine zcd ?_ | refine zci ?_ | refine zc3 ?_) <;> (conv => whnf)))
            exact hN5 _ _ _ _ _ rfl
          · have hE : seeE ⟨me, true, there0, rv, hd, du, since, out, sent, term, frm⟩ now rev holder dur false = ⟨me, true, false, 0, 0, 0, now, out, sent, term, frm⟩ := by simp [seeE, c1, c2, c3]
            rw [hE] at hN5
            refine fn_sp (hG _ AF.f14 rfl) rfl ?_
            ((conv => whnf); repeat ((first | refine SCall.app (fn_sp (hG _ _ rfl) rfl) ?_ | refine SEx.of (ha) ?_ | refine SEx.of (s1 _) ?_ | refine SEx.of (s2 _ _) ?_ | refine SEx.of (s3 _ _ _) ?_ | refine SEx.of (s4 _ _ _ _) ?_ | refine SEx.of (s5 _ _ _ _ _) ?_ | refine SEx.of (s6 _ _ _ _ _ _) ?_ | refine yf rfl ?_ | refine yt rfl ?_ | refine yo rfl ?_ | refine yc rfl ?_ | refine ys rfl ?_ | refine ye rfl ?_ | refine yn rfl ?_ | refine zw ?_ | refine zdt ?_ | refine zdf ?_ | refine znt ?_ | refine znf ?_ | refine zcd ?_ | refine zci ?_ | refine zc3 ?_) <;> (conv => whnf)))
            exact hN5 _ _ _ _ _ rfl
  · cases seen
    · by_cases c3 : 0 < term
      · by_cases c4 : term < rev
        · by_cases c5 : holder = me
          · have hE : seeE ⟨me, false, there0, rv, hd, du, since, out, sent, term, frm⟩ now rev holder dur true = ⟨me, true, true, rev, holder, dur, now, out, sent, term, frm⟩ := by simp [seeE, c3, c4, c5]
            rw [hE] at hN5
            refine fn_sp (hG _ AF.f14 rfl) rfl ?_
            ((conv => whnf); repeat ((first | refine SCall.app (fn_sp (hG _ _ rfl) rfl) ?_ | refine SEx.of (ha) ?_ | refine SEx.of (s1 _) ?_ | refine SEx.of (s2 _ _) ?_ | refine SEx.of (s3 _ _ _) ?_ | refine SEx.of (s4 _ _ _ _) ?_ | refine SEx.of (s5 _ _ _ _ _) ?_ | refine SEx.of (s6 _ _ _ _ _ _) ?_ | refine yf rfl ?_ | refine yt rfl ?_ | refine yo rfl ?_ | refine yc rfl ?_ | refine ys rfl ?_ | refine ye rfl ?_ | refine yn rfl ?_ | refine zw ?_ | refine zdt ?_ | refine zdf ?_ | refine znt ?_ | refine znf ?_ | refine zcd ?_ | refine zci ?_ | refine zc3 ?_) <;> (conv => whnf)))
            exact hN5 _ _ _ _ _ rfl
          · have hE : seeE ⟨me, false, there0, rv, hd, du, since, out, sent, term, frm⟩ now rev holder dur true = ⟨me, true, true, rev, holder, dur, now, out, sent, 0, frm⟩ := by simp [seeE, c3, c4, c5]
            rw [hE] at hN6
            refine fn_sp (hG _ AF.f14 rfl) rfl ?_
            ((conv => whnf); repeat ((first | refine SCall.app (fn_sp (hG _ _ rfl) rfl) ?_ | refine SEx.of (ha) ?_ | refine SEx.of (s1 _) ?_ | refine SEx.of (s2 _ _) ?_ | refine SEx.of (s3 _ _ _) ?_ | refine SEx.of (s4 _ _ _ _) ?_ | refine SEx.of (s5 _ _ _ _ _) ?_ | refine SEx.of (s6 _ _ _ _ _ _) ?_ | refine yf rfl ?_ | refine yt rfl ?_ | refine yo rfl ?_ | refine yc rfl ?_ | refine ys rfl ?_ | refine ye rfl ?_ | refine yn rfl ?_ | refine zw ?_ | refine zdt ?_ | refine zdf ?_ | refine znt ?_ | refine znf ?_ | refine zcd ?_ | refine zci ?_ | refine zc3 ?_) <;> (conv => whnf)))
            exact hN6 _ _ _ _ _ _ rfl
        · have hE : seeE ⟨me, false, there0, rv, hd, du, since, out, sent, term, frm⟩ now rev holder dur true = ⟨me, true, true, rev, holder, dur, now, out, sent, term, frm⟩ := by simp [seeE, c3, c4]
          rw [hE] at hN5
          refine fn_sp (hG _ AF.f14 rfl) rfl ?_
          ((conv => whnf); repeat ((first | refine SCall.app (fn_sp (hG _ _ rfl) rfl) ?_ | refine SEx.of (ha) ?_ | refine SEx.of (s1 _) ?_ | refine SEx.of (s2 _ _) ?_ | refine SEx.of (s3 _ _ _) ?_ | refine SEx.of (s4 _ _ _ _) ?_ | refine SEx.of (s5 _ _ _ _ _) ?_ | refine SEx.of (s6 _ _ _ _ _ _) ?_ | refine yf rfl ?_ | refine yt rfl ?_ | refine yo rfl ?_ | refine yc rfl ?_ | refine ys rfl ?_ | refine ye rfl ?_ | refine yn rfl ?_ | refine zw ?_ | refine zdt ?_ | refine zdf ?_ | refine znt ?_ | refine znf ?_ | refine zcd ?_ | refine zci ?_ | refine zc3 ?_) <;> (conv => whnf)))
          exact hN5 _ _ _ _ _ rfl
      · have hE : seeE ⟨me, false, there0, rv, hd, du, since, out, sent, term, frm⟩ now rev holder dur true = ⟨me, true, true, rev, holder, dur, now, out, sent, term, frm⟩ := by simp [seeE, c3]
        rw [hE] at hN5
        refine fn_sp (hG _ AF.f14 rfl) rfl ?_
        ((conv => whnf); repeat ((first | refine SCall.app (fn_sp (hG _ _ rfl) rfl) ?_ | refine SEx.of (ha) ?_ | refine SEx.of (s1 _) ?_ | refine SEx.of (s2 _ _) ?_ | refine SEx.of (s3 _ _ _) ?_ | refine SEx.of (s4 _ _ _ _) ?_ | refine SEx.of (s5 _ _ _ _ _) ?_ | refine SEx.of (s6 _ _ _ _ _ _) ?_ | refine yf rfl ?_ | refine yt rfl ?_ | refine yo rfl ?_ | refine yc rfl ?_ | refine ys rfl ?_ | refine ye rfl ?_ | refine yn rfl ?_ | refine zw ?_ | refine zdt ?_ | refine zdf ?_ | refine znt ?_ | refine znf ?_ | refine zcd ?_ | refine zci ?_ | refine zc3 ?_) <;> (conv => whnf)))
        exact hN5 _ _ _ _ _ rfl
    · by_cases c1 : rev < rv
      · have hE : seeE ⟨me, true, there0, rv, hd, du, since, out, sent, term, frm⟩ now rev holder dur true = ⟨me, true, there0, rv, hd, du, since, out, sent, term, frm⟩ := by simp [seeE, c1]
        rw [hE] at hN0
        refine fn_sp (hG _ AF.f14 rfl) rfl ?_
        ((conv => whnf); repeat ((first | refine SCall.app (fn_sp (hG _ _ rfl) rfl) ?_ | refine SEx.of (ha) ?_ | refine SEx.of (s1 _) ?_ | refine SEx.of (s2 _ _) ?_ | refine SEx.of (s3 _ _ _) ?_ | refine SEx.of (s4 _ _ _ _) ?_ | refine SEx.of (s5 _ _ _ _ _) ?_ | refine SEx.of (s6 _ _ _ _ _ _) ?_ | refine yf rfl ?_ | refine yt rfl ?_ | refine yo rfl ?_ | refine yc rfl ?_ | refine ys rfl ?_ | refine ye rfl ?_ | refine yn rfl ?_ | refine zw ?_ | refine zdt ?_ | refine zdf ?_ | refine znt ?_ | refine znf ?_ | refine zcd ?_ | refine zci ?_ | refine zc3 ?_) <;> (conv => whnf)))
        exact hN0 ha (Heap.Keeps.refl _ _)
      · by_cases c2 : rev = rv
        · skip
          by_cases c3 : 0 < term
          · by_cases c4 : term < rev
            · by_cases c5 : holder = me
              · have hE : seeE ⟨me, true, there0, rv, hd, du, since, out, sent, term, frm⟩ now rev holder dur true = ⟨me, true, true, rev, holder, dur, since, out, sent, term, frm⟩ := by simp [seeE, c1, c2.symm, c3, c4, c5]
                rw [hE] at hN4
                refine fn_sp (hG _ AF.f14 rfl) rfl ?_
                ((conv => whnf); repeat ((first | refine SCall.app (fn_sp (hG _ _ rfl) rfl) ?_ | refine SEx.of (ha) ?_ | refine SEx.of (s1 _) ?_ | refine SEx.of (s2 _ _) ?_ | refine SEx.of (s3 _ _ _) ?_ | refine SEx.of (s4 _ _ _ _) ?_ | refine SEx.of (s5 _ _ _ _ _) ?_ | refine SEx.of (s6 _ _ _ _ _ _) ?_ | refine yf rfl ?_ | refine yt rfl ?_ | refine yo rfl ?_ | refine yc rfl ?_ | refine ys rfl ?_ | refine ye rfl ?_ | refine yn rfl ?_ | refine zw ?_ | refine zdt ?_ | refine zdf ?_ | refine znt ?_ | refine znf ?_ | refine zcd ?_ | refine zci ?_ | refine zc3 ?_) <;> (conv => whnf)))
                exact hN4 _ _ _ _ rfl
              · have hE : seeE ⟨me, true, there0, rv, hd, du, since, out, sent, term, frm⟩ now rev holder dur true = ⟨me, true, true, rev, holder, dur, since, out, sent, 0, frm⟩ := by simp [seeE, c1, c2.symm, c3, c4, c5]
                rw [hE] at hN5
                refine fn_sp (hG _ AF.f14 rfl) rfl ?_
                ((conv => whnf); repeat ((first | refine SCall.app (fn_sp (hG _ _ rfl) rfl) ?_ | refine SEx.of (ha) ?_ | refine SEx.of (s1 _) ?_ | refine SEx.of (s2 _ _) ?_ | refine SEx.of (s3 _ _ _) ?_ | refine SEx.of (s4 _ _ _ _) ?_ | refine SEx.of (s5 _ _ _ _ _) ?_ | refine SEx.of (s6 _ _ _ _ _ _) ?_ | refine yf rfl ?_ | refine yt rfl ?_ | refine yo rfl ?_ | refine yc rfl ?_ | refine ys rfl ?_ | refine ye rfl ?_ | refine yn rfl ?_ | refine zw ?_ | refine zdt ?_ | refine zdf ?_ | refine znt ?_ | refine znf ?_ | refine zcd ?_ | refine zci ?_ | refine zc3 ?_) <;> (conv => whnf)))
                exact hN5 _ _ _ _ _ rfl
            · have hE : seeE ⟨me, true, there0, rv, hd, du, since, out, sent, term, frm⟩ now rev holder dur true = ⟨me, true, true, rev, holder, dur, since, out, sent, term, frm⟩ := by simp [seeE, c1, c2.symm, c3, c4]
              rw [hE] at hN4
              refine fn_sp (hG _ AF.f14 rfl) rfl ?_
              ((conv => whnf); repeat ((first | refine SCall.app (fn_sp (hG _ _ rfl) rfl) ?_ | refine SEx.of (ha) ?_ | refine SEx.of (s1 _) ?_ | refine SEx.of (s2 _ _) ?_ | refine SEx.of (s3 _ _ _) ?_ | refine SEx.of (s4 _ _ _ _) ?_ | refine SEx.of (s5 _ _ _ _ _) ?_ | refine SEx.of (s6 _ _ _ _ _ _) ?_ | refine yf rfl ?_ | refine yt rfl ?_ | refine yo rfl ?_ | refine yc rfl ?_ | refine ys rfl ?_ | refine ye rfl ?_ | refine yn rfl ?_ | refine zw ?_ | refine zdt ?_ | refine zdf ?_ | refine znt ?_ | refine znf ?_ | refine zcd ?_ | refine zci ?_ | refine zc3 ?_) <;> (conv => whnf)))
              exact hN4 _ _ _ _ rfl
          · have hE : seeE ⟨me, true, there0, rv, hd, du, since, out, sent, term, frm⟩ now rev holder dur true = ⟨me, true, true, rev, holder, dur, since, out, sent, term, frm⟩ := by simp [seeE, c1, c2.symm, c3]
            rw [hE] at hN4
            refine fn_sp (hG _ AF.f14 rfl) rfl ?_
            ((conv => whnf); repeat ((first | refine SCall.app (fn_sp (hG _ _ rfl) rfl) ?_ | refine SEx.of (ha) ?_ | refine SEx.of (s1 _) ?_ | refine SEx.of (s2 _ _) ?_ | refine SEx.of (s3 _ _ _) ?_ | refine SEx.of (s4 _ _ _ _) ?_ | refine SEx.of (s5 _ _ _ _ _) ?_ | refine SEx.of (s6 _ _ _ _ _ _) ?_ | refine yf rfl ?_ | refine yt rfl ?_ | refine yo rfl ?_ | refine yc rfl ?_ | refine ys rfl ?_ | refine ye rfl ?_ | refine yn rfl ?_ | refine zw ?_ | refine zdt ?_ | refine zdf ?_ | refine znt ?_ | refine znf ?_ | refine zcd ?_ | refine zci ?_ | refine zc3 ?_) <;> (conv => whnf)))
            exact hN4 _ _ _ _ rfl
        · by_cases c3 : 0 < term
          · by_cases c4 : term < rev
            · by_cases c5 : holder = me
              · have hE : seeE ⟨me, true, there0, rv, hd, du, since, out, sent, term, frm⟩ now rev holder dur true = ⟨me, true, true, rev, holder, dur, now, out, sent, term, frm⟩ := by simp [seeE, c1, c2, c3, c4, c5]
                rw [hE] at hN5
                refine fn_sp (hG _ AF.f14 rfl) rfl ?_
                ((conv => whnf); repeat ((first | refine SCall.app (fn_sp (hG _ _ rfl) rfl) ?_ | refine SEx.of (ha) ?_ | refine SEx.of (s1 _) ?_ | refine SEx.of (s2 _ _) ?_ | refine SEx.of (s3 _ _ _) ?_ | refine SEx.of (s4 _ _ _ _) ?_ | refine SEx.of (s5 _ _ _ _ _) ?_ | refine SEx.of (s6 _ _ _ _ _ _) ?_ | refine yf rfl ?_ | refine yt rfl ?_ | refine yo rfl ?_ | refine yc rfl ?_ | refine ys rfl ?_ | refine ye rfl ?_ | refine yn rfl ?_ | refine zw ?_ | refine zdt ?_ | refine zdf ?_ | refine znt ?_ | refine znf ?_ | refine zcd ?_ | refine zci ?_ | refine zc3 ?_) <;> (conv => whnf)))
                exact hN5 _ _ _ _ _ rfl
              · have hE : seeE ⟨me, true, there0, rv, hd, du, since, out, sent, term, frm⟩ now rev holder dur true = ⟨me, true, true, rev, holder, dur, now, out, sent, 0, frm⟩ := by simp [seeE, c1, c2, c3, c4, c5]
                rw [hE] at hN6
                refine fn_sp (hG _ AF.f14 rfl) rfl ?_
                ((conv => whnf); repeat ((first | refine SCall.app (fn_sp (hG _ _ rfl) rfl) ?_ | refine SEx.of (ha) ?_ | refine SEx.of (s1 _) ?_ | refine SEx.of (s2 _ _) ?_ | refine SEx.of (s3 _ _ _) ?_ | refine SEx.of (s4 _ _ _ _) ?_ | refine SEx.of (s5 _ _ _ _ _) ?_ | refine SEx.of (s6 _ _ _ _ _ _) ?_ | refine yf rfl ?_ | refine yt rfl ?_ | refine yo rfl ?_ | refine yc rfl ?_ | refine ys rfl ?_ | refine ye rfl ?_ | refine yn rfl ?_ | refine zw ?_ | refine zdt ?_ | refine zdf ?_ | refine znt ?_ | refine znf ?_ | refine zcd ?_ | refine zci ?_ | refine zc3 ?_) <;> (conv => whnf)))
                exact hN6 _ _ _ _ _ _ rfl
            · have hE : seeE ⟨me, true, there0, rv, hd, du, since, out, sent, term, frm⟩ now rev holder dur true = ⟨me, true, true, rev, holder, dur, now, out, sent, term, frm⟩ := by simp [seeE, c1, c2, c3, c4]
              rw [hE] at hN5
              refine fn_sp (hG _ AF.f14 rfl) rfl ?_
              ((conv => whnf); repeat ((first | refine SCall.app (fn_sp (hG _ _ rfl) rfl) ?_ | refine SEx.of (ha) ?_ | refine SEx.of (s1 _) ?_ | refine SEx.of (s2 _ _) ?_ | refine SEx.of (s3 _ _ _) ?_ | refine SEx.of (s4 _ _ _ _) ?_ | refine SEx.of (s5 _ _ _ _ _) ?_ | refine SEx.of (s6 _ _ _ _ _ _) ?_ | refine yf rfl ?_ | refine yt rfl ?_ | refine yo rfl ?_ | refine yc rfl ?_ | refine ys rfl ?_ | refine ye rfl ?_ | refine yn rfl ?_ | refine zw ?_ | refine zdt ?_ | refine zdf ?_ | refine znt ?_ | refine znf ?_ | refine zcd ?_ | refine zci ?_ | refine zc3 ?_) <;> (conv => whnf)))
              exact hN5 _ _ _ _ _ rfl
          · have hE : seeE ⟨me, true, there0, rv, hd, du, since, out, sent, term, frm⟩ now rev holder dur true = ⟨me, true, true, rev, holder, dur, now, out, sent, term, frm⟩ := by simp [seeE, c1, c2, c3]
            rw [hE] at hN5
            refine fn_sp (hG _ AF.f14 rfl) rfl ?_
            ((conv => whnf); repeat ((first | refine SCall.app (fn_sp (hG _ _ rfl) rfl) ?_ | refine SEx.of (ha) ?_ | refine SEx.of (s1 _) ?_ | refine SEx.of (s2 _ _) ?_ | refine SEx.of (s3 _ _ _) ?_ | refine SEx.of (s4 _ _ _ _) ?_ | refine SEx.of (s5 _ _ _ _ _) ?_ | refine SEx.of (s6 _ _ _ _ _ _) ?_ | refine yf rfl ?_ | refine yt rfl ?_ | refine yo rfl ?_ | refine yc rfl ?_ | refine ys rfl ?_ | refine ye rfl ?_ | refine yn rfl ?_ | refine zw ?_ | refine zdt ?_ | refine zdf ?_ | refine znt ?_ | refine znf ?_ | refine zcd ?_ | refine zci ?_ | refine zc3 ?_) <;> (conv => whnf)))
            exact hN5 _ _ _ _ _ rfl
end
end Go.Eng
