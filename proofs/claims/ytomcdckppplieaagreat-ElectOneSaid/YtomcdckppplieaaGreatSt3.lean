/-
The store of one key: a txn of one guard and one write.
-/
import Derived.Test.YtomcdckppplieaaGreatSt2
set_option linter.unusedVariables false
set_option linter.unusedSimpArgs false
namespace Go.Eng
open Go
def owns (a m0 m1 g c : Nat) (j : Nat) : Prop := j = a ∨ j = m0 ∨ j = m1 ∨ j = g ∨ j = c
theorem LogAt.keep {h h' : Heap} {g c n : Nat} {last : Int} (hl : LogAt h g c n last) (hn : h.next ≤ h'.next) (e1 : h'.get g = h.get g) (e2 : h'.get c = h.get c) : LogAt h' g c n last := by
  obtain ⟨h1, h2, base, h3 | ⟨rows, h3, h4, h5, h6⟩⟩ := hl
  · exact ⟨by omega, by omega, base, .inl ⟨h3.1, h3.2.1, e1.trans h3.2.2⟩⟩
  · exact ⟨by omega, by omega, base, .inr ⟨rows, h3, h4, e1.trans h5, e2.trans h6⟩⟩
section
variable {P : Program} (hG : FnsOk P AF.fns.get)
include hG
set_option maxHeartbeats 8000000 in
theorem txn_at (hA : AddAt P) {h : Heap} {a m0 m1 lg c n : Nat} {rev : Int} {cur : CurD} (hs : StoreAt h a m0 m1 lg c rev cur n) (g : Int) (b : List Int) (hg : 0 ≤ g) (hb : b.length ≤ 4000) (hr : 0 ≤ rev ∧ rev ≤ 4611686018427387904) (hn : n < 64) {K : V → Heap → Prop}
    (hno : curRev cur ≠ g → ∀ h', StoreAt h' a m0 m1 lg c rev cur n → Heap.Keeps (owns a m0 m1 lg c) h h' → K (.tup [.i .i64 0, .i .i64 6]) h')
    (hK : curRev cur = g → ∀ h' c', StoreAt h' a m0 m1 lg c' (rev + 1) (some (rev + 1, b)) (n + 1) → (c' = c ∨ h.next ≤ c') → Heap.Keeps (owns a m0 m1 lg c) h h' → K (.tup [.i .i64 (rev + 1), .i .i64 0]) h') :
    ACall P 16 [.p (.g a) 0, txnV g b] h K := by
  have hbl : (b.map byR).length = b.length := List.length_map _
  obtain ⟨rd, wr, ha⟩ := hs.ga
  obtain ⟨l1, l2, l3⟩ := hs.lt
  obtain ⟨n1, n2, n3, n4, n5, n6, n7, n8, n9⟩ := hs.ne
  obtain ⟨last, hlast, hlog⟩ := hs.log
  have hadd : addRun [.p (.g a) 5, .i .i64 1] h = some (.i .i64 (IntKind.i64.wrap (wr + 1)), h.set a (.cs [.i .i64 rev, .m (.g m0), .m (.g m1), .p (.g lg) 0, .i .i64 rd, .i .i64 (IntKind.i64.wrap (wr + 1))])) := by simp only [addRun, ha]; rfl
  generalize IntKind.i64.wrap (wr + 1) = w2 at hadd
  have hs1 : StoreAt (h.set a (.cs [.i .i64 rev, .m (.g m0), .m (.g m1), .p (.g lg) 0, .i .i64 rd, .i .i64 w2])) a m0 m1 lg c rev cur n :=
    ⟨hs.lt, hs.ne, ⟨rd, w2, Heap.get_set_self ha⟩, Heap.gs n1.symm hs.g0, by obtain ⟨x, hx⟩ := hs.g1; exact ⟨x, Heap.gs n2.symm hx⟩, last, hlast, hlog.keep (Nat.le_refl _) (Heap.get_set_ne n4.symm) (Heap.get_set_ne n7.symm)⟩
  have k1 : Heap.Keeps (owns a m0 m1 lg c) h (h.set a (.cs [.i .i64 rev, .m (.g m0), .m (.g m1), .p (.g lg) 0, .i .i64 rd, .i .i64 w2])) := (Heap.Keeps.refl _ h).set (.inl (.inl rfl)) _
  have hcan := fun K => can_at hG hs1 g b hg hb (K := K)
  by_cases hc : curRev cur = g
  · rw [if_pos hc] at hcan
    obtain ⟨x, g1⟩ := hs.g1
    have g0 := hs.g0
    have a1 : ∀ o, (h.set a o).get a = some o := fun o => Heap.get_set_self ha
    have a2 : ∀ o o', ((h.set a o).set a o').get a = some o' := fun o o' => Heap.get_set_self (a1 o)
    have b2 : ∀ o o', ((h.set a o).set a o').get m1 = some (.mp none (mapT x)) := fun o o' => Heap.gs n2.symm (Heap.gs n2.symm g1)
    have c2 : ∀ o o', ((h.set a o).set a o').get m0 = some (.mp none (mapL cur)) := fun o o' => Heap.gs n1.symm (Heap.gs n1.symm g0)
    have a3 : ∀ o o' p, (((h.set a o).set a o').set m1 p).get a = some o' := fun o o' p => Heap.gs n2 (a2 o o')
    have c3 : ∀ o o' p, (((h.set a o).set a o').set m1 p).get m0 = some (.mp none (mapL cur)) := fun o o' p => Heap.gs n3 (c2 o o')
    have b3 : ∀ o o' p, (((h.set a o).set a o').set m1 p).get m1 = some p := fun o o' p => Heap.get_set_self (b2 o o')
    have a4 : ∀ o o' p q, ((((h.set a o).set a o').set m1 p).set m0 q).get a = some o' := fun o o' p q => Heap.gs n1 (a3 o o' p)
    have hcop := scopied_ok hG lS (rev + 1) b (by omega)
    obtain ⟨A1, hA1⟩ : ∃ A1, A1 = Obj.cs [.i .i64 rev, .m (.g m0), .m (.g m1), .p (.g lg) 0, .i .i64 rd, .i .i64 w2] := ⟨_, rfl⟩
    obtain ⟨A2, hA2⟩ : ∃ A2, A2 = Obj.cs [.i .i64 (rev + 1), .m (.g m0), .m (.g m1), .p (.g lg) 0, .i .i64 rd, .i .i64 w2] := ⟨_, rfl⟩
    obtain ⟨M1, hM1⟩ : ∃ M1, M1 = Obj.mp none (mapT (some (rev + 1))) := ⟨_, rfl⟩
    obtain ⟨M0, hM0⟩ : ∃ M0, M0 = Obj.mp none (mapL (some (rev + 1, b))) := ⟨_, rfl⟩
    have hlog4 : LogAt ((((h.set a A1).set a A2).set m1 M1).set m0 M0) lg c n last :=
      hlog.keep (Nat.le_refl _) ((Heap.get_set_ne n5.symm).trans ((Heap.get_set_ne n6.symm).trans ((Heap.get_set_ne n4.symm).trans (Heap.get_set_ne n4.symm)))) ((Heap.get_set_ne n8.symm).trans ((Heap.get_set_ne n9.symm).trans ((Heap.get_set_ne n7.symm).trans (Heap.get_set_ne n7.symm))))
    have k4 : Heap.Keeps (owns a m0 m1 lg c) h ((((h.set a A1).set a A2).set m1 M1).set m0 M0) :=
      (((((Heap.Keeps.refl _ h).set (.inl (.inl rfl)) _).set (.inl (.inl rfl)) _).set (.inl (.inr (.inr (.inl rfl)))) _).set (.inl (.inr (.inl rfl))) _)
    have hfin : ∀ h' c', LogAt h' lg c' (n + 1) (rev + 1) → (c' = c ∨ h.next ≤ c') → Heap.Keeps (fun j => j = lg ∨ j = c) ((((h.set a A1).set a A2).set m1 M1).set m0 M0) h' → h'.get a = some A2 ∧ K (.tup [.i .i64 (rev + 1), .i .i64 0]) h' := fun h' c' hl' hc' hk' => by
      have e1 : h'.get a = some A2 := (hk'.same a l1 (fun e => e.elim n4 n7)).trans (a4 _ _ _ _)
      have e2 : h'.get m0 = some M0 := (hk'.same m0 l2 (fun e => e.elim n5 n8)).trans (Heap.get_set_self (c3 _ _ _))
      have e3 : h'.get m1 = some M1 := (hk'.same m1 l3 (fun e => e.elim n6 n9)).trans (Heap.gs n3.symm (b3 _ _ _))
      have hn' : h.next ≤ h'.next := hk'.next
      refine ⟨e1, hK hc h' c' ⟨⟨by omega, by omega, by omega⟩, ⟨n1, n2, n3, n4, n5, n6, ?_, ?_, ?_⟩, ⟨rd, w2, by rw [e1, hA2]⟩, by rw [e2, hM0], ⟨_, by rw [e3, hM1]⟩, _, Int.le_refl _, hl'⟩ hc' (k4.trans (hk'.mono fun j _ hj => hj.elim (fun e => .inr (.inr (.inr (.inl e)))) fun e => .inr (.inr (.inr (.inr e)))))⟩
      · rcases hc' with rfl | hc'
        · exact n7
        · omega
      · rcases hc' with rfl | hc'
        · exact n8
        · omega
      · rcases hc' with rfl | hc'
        · exact n9
        · omega
    have haddl := fun (K' : V → Heap → Prop) (hK' : ∀ h' c', LogAt h' lg c' (n + 1) (rev + 1) → (c' = c ∨ h.next ≤ c') → Heap.Keeps (fun j => j = lg ∨ j = c) ((((h.set a A1).set a A2).set m1 M1).set m0 M0) h' → K' (.b true) h') =>
      add_at hG (r := rev + 1) (b := b) (K := K') hlog4 (by omega) hn (by omega) hK'
    clear hK hno
    cases x <;> rcases cur with _ | ⟨cr, cb⟩
    all_goals
      subst hA1 hA2 hM1 hM0
      refine fn_sp (hG _ AF.f16 rfl) rfl ?_
      ((conv => whnf); repeat ((first | refine SLoop.un ?_ | refine SCall.app (hA _ _ _ _ hadd _) ?_ | refine SCall.app (hcan _) ?_ | refine SCall.app (Pure.go hcop rfl) ?_ | refine SEx.of (ha) ?_ | refine SEx.of (a1 _) ?_ | refine SEx.of (a2 _ _) ?_ | refine SEx.of (a3 _ _ _) ?_ | refine SEx.of (a4 _ _ _ _) ?_ | refine SEx.of (b2 _ _) ?_ | refine SEx.of (c3 _ _ _) ?_ | refine yf rfl ?_ | refine yt rfl ?_ | refine yo rfl ?_ | refine yc rfl ?_ | refine ys rfl ?_ | refine ye rfl ?_ | refine yn rfl ?_ | refine zw ?_ | refine zdt ?_ | refine zdf ?_ | refine znt ?_ | refine znf ?_ | refine zcd ?_ | refine zci ?_ | refine zc3 ?_) <;> (conv => whnf)))
      refine SCall.mk (haddl _ fun h' c' hl' hc' hk' => ?_)
      obtain ⟨e1, hKf⟩ := hfin h' c' hl' hc' hk'
      ((conv => whnf); repeat ((first | refine SEx.of (e1) ?_ | refine yf rfl ?_ | refine yt rfl ?_ | refine yo rfl ?_ | refine yc rfl ?_ | refine ys rfl ?_ | refine ye rfl ?_ | refine yn rfl ?_ | refine zw ?_ | refine zdt ?_ | refine zdf ?_ | refine znt ?_ | refine znf ?_ | refine zcd ?_ | refine zci ?_ | refine zc3 ?_) <;> (conv => whnf)))
      exact hKf
  · rw [if_neg hc] at hcan
    refine fn_sp (hG _ AF.f16 rfl) rfl ?_
    ((conv => whnf); repeat ((first | refine SLoop.un ?_ | refine SCall.app (hA _ _ _ _ hadd _) ?_ | refine SCall.app (hcan _) ?_ | refine SEx.of (ha) ?_ | refine yf rfl ?_ | refine yt rfl ?_ | refine yo rfl ?_ | refine yc rfl ?_ | refine ys rfl ?_ | refine ye rfl ?_ | refine yn rfl ?_ | refine zw ?_ | refine zdt ?_ | refine zdf ?_ | refine znt ?_ | refine znf ?_ | refine zcd ?_ | refine zci ?_ | refine zc3 ?_) <;> (conv => whnf)))
    exact hno hc _ hs1 k1
end
end Go.Eng
