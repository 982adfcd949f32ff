/-
The store of one key, however much was written: a txn of one guard and one write; what it bears.
-/
import Derived.Test.YtomcdckppplieaaGreatLo3
import Derived.Test.YtomcdckppplieaaGreatSt3
set_option linter.unusedVariables false
set_option linter.unusedSimpArgs false
namespace Go.Eng
open Go
/-- The store at `a`: at which revision, what the key bears. -/
structure StoreL (h : Heap) (a m0 m1 g c : Nat) (rev : Int) (cur : CurD) : Prop where
  lt : a < h.next ∧ m0 < h.next ∧ m1 < h.next
  ne : a ≠ m0 ∧ a ≠ m1 ∧ m0 ≠ m1 ∧ a ≠ g ∧ m0 ≠ g ∧ m1 ≠ g ∧ a ≠ c ∧ m0 ≠ c ∧ m1 ≠ c
  ga : ∃ rd wr, h.get a = some (.cs [.i .i64 rev, .m (.g m0), .m (.g m1), .p (.g g) 0, .i .i64 rd, .i .i64 wr])
  g0 : h.get m0 = some (.mp none (mapL cur))
  g1 : ∃ x, h.get m1 = some (.mp none (mapT x))
  log : ∃ L last, last ≤ rev ∧ L.length ≤ 64 ∧ LogE h g c L last
theorem StoreL.other {h h' : Heap} {a m0 m1 g c : Nat} {rev : Int} {cur : CurD} (hs : StoreL h a m0 m1 g c rev cur) {but : Nat → Prop} (hk : Heap.Keeps but h h') (hb : ∀ j, owns a m0 m1 g c j → ¬ but j) : StoreL h' a m0 m1 g c rev cur := by
  obtain ⟨l1, l2, l3⟩ := hs.lt
  obtain ⟨rd, wr, ga⟩ := hs.ga
  obtain ⟨x, g1⟩ := hs.g1
  obtain ⟨L, last, hl, h64, hg⟩ := hs.log
  have hn := hk.next
  exact ⟨⟨by omega, by omega, by omega⟩, hs.ne, ⟨rd, wr, (hk.same a l1 (hb a (.inl rfl))).trans ga⟩, (hk.same m0 l2 (hb m0 (.inr (.inl rfl)))).trans hs.g0, ⟨x, (hk.same m1 l3 (hb m1 (.inr (.inr (.inl rfl))))).trans g1⟩,
    L, last, hl, h64, hg.keep hn (hk.same g hg.lg (hb g (.inr (.inr (.inr (.inl rfl)))))) (hk.same c hg.lc (hb c (.inr (.inr (.inr (.inr rfl))))))⟩
section
variable {P : Program} (hG : FnsOk P AF.fns.get)
include hG
set_option maxHeartbeats 4000000 in
theorem holdsL_at {h : Heap} {a m0 m1 lg c : Nat} {rev : Int} {cur : CurD} (hs : StoreL h a m0 m1 lg c rev cur) (g : Int) {K : V → Heap → Prop} (hK : K (.b (decide (curRev cur = g))) h) : ACall P 93 [.p (.g a) 0, .agg (guR g)] h K := by
  obtain ⟨rd, wr, ha⟩ := hs.ga
  have h0 := hs.g0
  cases cur with
  | none =>
    refine fn_sv (hG _ AF.f93 rfl) rfl ?_
    ((conv => whnf); repeat ((first | refine SEx.of (ha) ?_ | refine SEx.of (h0) ?_ | refine yf rfl ?_ | refine yt rfl ?_ | refine yo rfl ?_ | refine yc rfl ?_ | refine ys rfl ?_ | refine ye rfl ?_ | refine yn rfl ?_ | refine zw ?_ | refine zdt ?_ | refine zdf ?_ | refine znt ?_ | refine znf ?_ | refine zcd ?_ | refine zci ?_ | refine zc3 ?_) <;> (conv => whnf)))
    exact hK
  | some x =>
    obtain ⟨r, b⟩ := x
    refine fn_sv (hG _ AF.f93 rfl) rfl ?_
    ((conv => whnf); repeat ((first | refine SEx.of (ha) ?_ | refine SEx.of (h0) ?_ | refine yf rfl ?_ | refine yt rfl ?_ | refine yo rfl ?_ | refine yc rfl ?_ | refine ys rfl ?_ | refine ye rfl ?_ | refine yn rfl ?_ | refine zw ?_ | refine zdt ?_ | refine zdf ?_ | refine znt ?_ | refine znf ?_ | refine zcd ?_ | refine zci ?_ | refine zc3 ?_) <;> (conv => whnf)))
    exact hK
set_option maxHeartbeats 4000000 in
theorem canL_at {h : Heap} {a m0 m1 lg c : Nat} {rev : Int} {cur : CurD} (hs : StoreL h a m0 m1 lg c rev cur) (g : Int) (b : List Int) (hg : 0 ≤ g) (hb : b.length ≤ 4000) {K : V → Heap → Prop} (hK : K (.i .i64 (if curRev cur = g then 0 else 6)) h) : ACall P 56 [.p (.g a) 0, txnV g b] h K := by
  obtain ⟨rd, wr, ha⟩ := hs.ga
  have h0 := hs.g0
  have hm := may_ok hG g b hg hb
  have hh := fun K => holdsL_at hG hs g (K := K)
  by_cases hc : curRev cur = g
  · rw [if_pos hc] at hK
    rw [decide_eq_true hc] at hh
    cases cur with
    | none =>
      refine fn_sv (hG _ AF.f56 rfl) rfl ?_
      ((conv => whnf); repeat ((first | refine SLoopV.un rfl ?_ | refine SCall.app (Pure.go hm rfl) ?_ | refine SCall.app (hh _) ?_ | refine SEx.of (ha) ?_ | refine SEx.of (h0) ?_ | refine yf rfl ?_ | refine yt rfl ?_ | refine yo rfl ?_ | refine yc rfl ?_ | refine ys rfl ?_ | refine ye rfl ?_ | refine yn rfl ?_ | refine zw ?_ | refine zdt ?_ | refine zdf ?_ | refine znt ?_ | refine znf ?_ | refine zcd ?_ | refine zci ?_ | refine zc3 ?_) <;> (conv => whnf)))
      exact hK
    | some x =>
      obtain ⟨r, b⟩ := x
      refine fn_sv (hG _ AF.f56 rfl) rfl ?_
      ((conv => whnf); repeat ((first | refine SLoopV.un rfl ?_ | refine SCall.app (Pure.go hm rfl) ?_ | refine SCall.app (hh _) ?_ | refine SEx.of (ha) ?_ | refine SEx.of (h0) ?_ | refine yf rfl ?_ | refine yt rfl ?_ | refine yo rfl ?_ | refine yc rfl ?_ | refine ys rfl ?_ | refine ye rfl ?_ | refine yn rfl ?_ | refine zw ?_ | refine zdt ?_ | refine zdf ?_ | refine znt ?_ | refine znf ?_ | refine zcd ?_ | refine zci ?_ | refine zc3 ?_) <;> (conv => whnf)))
      exact hK
  · rw [if_neg hc] at hK
    rw [decide_eq_false hc] at hh
    refine fn_sv (hG _ AF.f56 rfl) rfl ?_
    ((conv => whnf); repeat ((first | refine SLoopV.un rfl ?_ | refine SCall.app (Pure.go hm rfl) ?_ | refine SCall.app (hh _) ?_ | refine SEx.of (ha) ?_ | refine SEx.of (h0) ?_ | refine yf rfl ?_ | refine yt rfl ?_ | refine yo rfl ?_ | refine yc rfl ?_ | refine ys rfl ?_ | refine ye rfl ?_ | refine yn rfl ?_ | refine zw ?_ | refine zdt ?_ | refine zdf ?_ | refine znt ?_ | refine znf ?_ | refine zcd ?_ | refine zci ?_ | refine zc3 ?_) <;> (conv => whnf)))
    exact hK
set_option maxHeartbeats 8000000 in
theorem txnL_at (hA : AddAt P) {h : Heap} {a m0 m1 lg c : Nat} {rev : Int} {cur : CurD} (hs : StoreL h a m0 m1 lg c rev cur) (g : Int) (b : List Int) (hg : 0 ≤ g) (hb : b.length ≤ 4000) (hr : 0 ≤ rev ∧ rev ≤ 4611686018427387904) {K : V → Heap → Prop}
    (hno : curRev cur ≠ g → ∀ h', StoreL h' a m0 m1 lg c rev cur → Heap.Keeps (owns a m0 m1 lg c) h h' → K (.tup [.i .i64 0, .i .i64 6]) h')
    (hK : curRev cur = g → ∀ h' c', StoreL h' a m0 m1 lg c' (rev + 1) (some (rev + 1, b)) → (c' = c ∨ h.next ≤ c') → Heap.Keeps (owns a m0 m1 lg c) h h' → K (.tup [.i .i64 (rev + 1), .i .i64 0]) h') :
    ACall P 16 [.p (.g a) 0, txnV g b] h K := by
  have hbl : (b.map byR).length = b.length := List.length_map _
  obtain ⟨rd, wr, ha⟩ := hs.ga
  obtain ⟨l1, l2, l3⟩ := hs.lt
  obtain ⟨n1, n2, n3, n4, n5, n6, n7, n8, n9⟩ := hs.ne
  obtain ⟨L, last, hlast, h64, hlog⟩ := hs.log
  have hadd : addRun [.p (.g a) 5, .i .i64 1] h = some (.i .i64 (IntKind.i64.wrap (wr + 1)), h.set a (.cs [.i .i64 rev, .m (.g m0), .m (.g m1), .p (.g lg) 0, .i .i64 rd, .i .i64 (IntKind.i64.wrap (wr + 1))])) := by simp only [addRun, ha]; rfl
  generalize IntKind.i64.wrap (wr + 1) = w2 at hadd
  have hs1 : StoreL (h.set a (.cs [.i .i64 rev, .m (.g m0), .m (.g m1), .p (.g lg) 0, .i .i64 rd, .i .i64 w2])) a m0 m1 lg c rev cur :=
    ⟨hs.lt, hs.ne, ⟨rd, w2, Heap.get_set_self ha⟩, Heap.gs n1.symm hs.g0, by obtain ⟨x, hx⟩ := hs.g1; exact ⟨x, Heap.gs n2.symm hx⟩, L, last, hlast, h64, hlog.keep (Nat.le_refl _) (Heap.get_set_ne n4.symm) (Heap.get_set_ne n7.symm)⟩
  have k1 : Heap.Keeps (owns a m0 m1 lg c) h (h.set a (.cs [.i .i64 rev, .m (.g m0), .m (.g m1), .p (.g lg) 0, .i .i64 rd, .i .i64 w2])) := (Heap.Keeps.refl _ h).set (.inl (.inl rfl)) _
  have hcan := fun K => canL_at hG hs1 g b hg hb (K := K)
  by_cases hc : curRev cur = g
  · rw [if_pos hc] at hcan
    obtain ⟨x, g1⟩ := hs.g1
    have g0 := hs.g0
    have a1 : ∀ o, (h.set a o).get a = some o := fun o => Heap.get_set_self ha
    have a2 : ∀ o o', ((h.set a o).set a o').get a = some o' := fun o o' => Heap.get_set_self (a1 o)
    have b2 : ∀ o o', ((h.set a o).set a o').get m1 = some (.mp none (mapT x)) := fun o o' => Heap.gs n2.symm (Heap.gs n2.symm g1)
    have c2 : ∀ o o', ((h.set a o).set a o').get m0 = some (.mp none (mapL cur)) := fun o o' => Heap.gs n1.symm (Heap.gs n1.symm g0)
    have a3 : ∀ o o' p, (((h.set a o).set a o').set m1 p).get a = some o' := fun o o' p => Heap.gs n2 (a2 o o')
    have c3 : ∀ o o' p, (((h.set a o).set a o').set m1 p).get m0 = some (.mp none (mapL cur)) := fun o o' p => Heap.gs n3 (c2 o o')
    have b3 : ∀ o o' p, (((h.set a o).set a o').set m1 p).get m1 = some p := fun o o' p => Heap.get_set_self (b2 o o')
    have a4 : ∀ o o' p q, ((((h.set a o).set a o').set m1 p).set m0 q).get a = some o' := fun o o' p q => Heap.gs n1 (a3 o o' p)
    have hcop := scopied_ok hG lS (rev + 1) b (by omega)
    obtain ⟨A1, hA1⟩ : ∃ A1, A1 = Obj.cs [.i .i64 rev, .m (.g m0), .m (.g m1), .p (.g lg) 0, .i .i64 rd, .i .i64 w2] := ⟨_, rfl⟩
    obtain ⟨A2, hA2⟩ : ∃ A2, A2 = Obj.cs [.i .i64 (rev + 1), .m (.g m0), .m (.g m1), .p (.g lg) 0, .i .i64 rd, .i .i64 w2] := ⟨_, rfl⟩
    obtain ⟨M1, hM1⟩ : ∃ M1, M1 = Obj.mp none (mapT (some (rev + 1))) := ⟨_, rfl⟩
    obtain ⟨M0, hM0⟩ : ∃ M0, M0 = Obj.mp none (mapL (some (rev + 1, b))) := ⟨_, rfl⟩
    have hlog4 : LogE ((((h.set a A1).set a A2).set m1 M1).set m0 M0) lg c L last :=
      hlog.keep (Nat.le_refl _) ((Heap.get_set_ne n5.symm).trans ((Heap.get_set_ne n6.symm).trans ((Heap.get_set_ne n4.symm).trans (Heap.get_set_ne n4.symm)))) ((Heap.get_set_ne n8.symm).trans ((Heap.get_set_ne n9.symm).trans ((Heap.get_set_ne n7.symm).trans (Heap.get_set_ne n7.symm))))
    have k4 : Heap.Keeps (owns a m0 m1 lg c) h ((((h.set a A1).set a A2).set m1 M1).set m0 M0) :=
      (((((Heap.Keeps.refl _ h).set (.inl (.inl rfl)) _).set (.inl (.inl rfl)) _).set (.inl (.inr (.inr (.inl rfl)))) _).set (.inl (.inr (.inl rfl))) _)
    have hfin : ∀ h' c' L', LogE h' lg c' L' (rev + 1) → L'.length ≤ 64 → (c' = c ∨ h.next ≤ c') → Heap.Keeps (fun j => j = lg ∨ j = c) ((((h.set a A1).set a A2).set m1 M1).set m0 M0) h' → h'.get a = some A2 ∧ K (.tup [.i .i64 (rev + 1), .i .i64 0]) h' := fun h' c' L' hl' hl64 hc' hk' => by
      have e1 : h'.get a = some A2 := (hk'.same a l1 (fun e => e.elim n4 n7)).trans (a4 _ _ _ _)
      have e2 : h'.get m0 = some M0 := (hk'.same m0 l2 (fun e => e.elim n5 n8)).trans (Heap.get_set_self (c3 _ _ _))
      have e3 : h'.get m1 = some M1 := (hk'.same m1 l3 (fun e => e.elim n6 n9)).trans (Heap.gs n3.symm (b3 _ _ _))
      have hn' : h.next ≤ h'.next := hk'.next
      refine ⟨e1, hK hc h' c' ⟨⟨by omega, by omega, by omega⟩, ⟨n1, n2, n3, n4, n5, n6, ?_, ?_, ?_⟩, ⟨rd, w2, by rw [e1, hA2]⟩, by rw [e2, hM0], ⟨_, by rw [e3, hM1]⟩, _, _, Int.le_refl _, hl64, hl'⟩ hc' (k4.trans (hk'.mono fun j _ hj => hj.elim (fun e => .inr (.inr (.inr (.inl e)))) fun e => .inr (.inr (.inr (.inr e)))))⟩
      · rcases hc' with rfl | hc'
        · exact n7
        · omega
      · rcases hc' with rfl | hc'
        · exact n8
        · omega
      · rcases hc' with rfl | hc'
        · exact n9
        · omega
    have haddl := fun (K' : V → Heap → Prop) (hK' : ∀ h' c' L', LogE h' lg c' L' (rev + 1) → L'.length ≤ 64 → (c' = c ∨ h.next ≤ c') → Heap.Keeps (fun j => j = lg ∨ j = c) ((((h.set a A1).set a A2).set m1 M1).set m0 M0) h' → K' (.b true) h') =>
      add_full hG (r := rev + 1) (b := b) (K := K') hlog4 (by omega) h64 (by omega) hK'
    clear hK hno
    cases x <;> rcases cur with _ | ⟨cr, cb⟩
    all_goals
      subst hA1 hA2 hM1 hM0
      refine fn_sv (hG _ AF.f16 rfl) rfl ?_
      ((conv => whnf); repeat ((first | refine SLoopV.un rfl ?_ | refine SCall.app (hA _ _ _ _ hadd _) ?_ | refine SCall.app (hcan _) ?_ | refine SCall.app (Pure.go hcop rfl) ?_ | refine SEx.of (ha) ?_ | refine SEx.of (a1 _) ?_ | refine SEx.of (a2 _ _) ?_ | refine SEx.of (a3 _ _ _) ?_ | refine SEx.of (a4 _ _ _ _) ?_ | refine SEx.of (b2 _ _) ?_ | refine SEx.of (c3 _ _ _) ?_ | refine yf rfl ?_ | refine yt rfl ?_ | refine yo rfl ?_ | refine yc rfl ?_ | refine ys rfl ?_ | refine ye rfl ?_ | refine yn rfl ?_ | refine zw ?_ | refine zdt ?_ | refine zdf ?_ | refine znt ?_ | refine znf ?_ | refine zcd ?_ | refine zci ?_ | refine zc3 ?_) <;> (conv => whnf)))
      refine SCall.mk (haddl _ fun h' c' L' hl' hl64 hc' hk' => ?_)
      obtain ⟨e1, hKf⟩ := hfin h' c' L' hl' hl64 hc' hk'
      ((conv => whnf); repeat ((first | refine SEx.of (e1) ?_ | refine yf rfl ?_ | refine yt rfl ?_ | refine yo rfl ?_ | refine yc rfl ?_ | refine ys rfl ?_ | refine ye rfl ?_ | refine yn rfl ?_ | refine zw ?_ | refine zdt ?_ | refine zdf ?_ | refine znt ?_ | refine znf ?_ | refine zcd ?_ | refine zci ?_ | refine zc3 ?_) <;> (conv => whnf)))
      exact hKf
  · rw [if_neg hc] at hcan
    refine fn_sv (hG _ AF.f16 rfl) rfl ?_
    ((conv => whnf); repeat ((first | refine SLoopV.un rfl ?_ | refine SCall.app (hA _ _ _ _ hadd _) ?_ | refine SCall.app (hcan _) ?_ | refine SEx.of (ha) ?_ | refine yf rfl ?_ | refine yt rfl ?_ | refine yo rfl ?_ | refine yc rfl ?_ | refine ys rfl ?_ | refine ye rfl ?_ | refine yn rfl ?_ | refine zw ?_ | refine zdt ?_ | refine zdf ?_ | refine znt ?_ | refine znf ?_ | refine zcd ?_ | refine zci ?_ | refine zc3 ?_) <;> (conv => whnf)))
    exact hno hc _ hs1 k1
set_option maxHeartbeats 4000000 in
theorem getL_at (hA : AddAt P) {h : Heap} {a m0 m1 lg c : Nat} {rev : Int} {cur : CurD} (hs : StoreL h a m0 m1 lg c rev cur) (hb : ∀ r b, cur = some (r, b) → b.length ≤ 4000) {K : V → Heap → Prop}
    (hK : ∀ h', StoreL h' a m0 m1 lg c rev cur → Heap.Keeps (owns a m0 m1 lg c) h h' → K (match cur with | none => .tup [.agg [.s [], .i .i64 0, .sl none 1 []], .b false] | some (r, b) => .tup [.agg [.s lS, .i .i64 r, lb b], .b true]) h') : ACall P 12 [.p (.g a) 0, .s lS] h K := by
  obtain ⟨rd, wr, ha⟩ := hs.ga
  have h0 := hs.g0
  obtain ⟨n1, n2, n3, n4, n5, n6, n7, n8, n9⟩ := hs.ne
  have hadd : addRun [.p (.g a) 4, .i .i64 1] h = some (.i .i64 (IntKind.i64.wrap (rd + 1)), h.set a (.cs [.i .i64 rev, .m (.g m0), .m (.g m1), .p (.g lg) 0, .i .i64 (IntKind.i64.wrap (rd + 1)), .i .i64 wr])) := by simp only [addRun, ha]; rfl
  generalize IntKind.i64.wrap (rd + 1) = w2 at hadd
  obtain ⟨L, last, hlast, h64, hlog⟩ := hs.log
  have hs1 : StoreL (h.set a (.cs [.i .i64 rev, .m (.g m0), .m (.g m1), .p (.g lg) 0, .i .i64 w2, .i .i64 wr])) a m0 m1 lg c rev cur :=
    ⟨hs.lt, hs.ne, ⟨w2, wr, Heap.get_set_self ha⟩, Heap.gs n1.symm hs.g0, by obtain ⟨x, hx⟩ := hs.g1; exact ⟨x, Heap.gs n2.symm hx⟩, L, last, hlast, h64, hlog.keep (Nat.le_refl _) (Heap.get_set_ne n4.symm) (Heap.get_set_ne n7.symm)⟩
  have k1 : Heap.Keeps (owns a m0 m1 lg c) h (h.set a (.cs [.i .i64 rev, .m (.g m0), .m (.g m1), .p (.g lg) 0, .i .i64 w2, .i .i64 wr])) := (Heap.Keeps.refl _ h).set (.inl (.inl rfl)) _
  have a1 : ∀ o, (h.set a o).get a = some o := fun o => Heap.get_set_self ha
  have c1 : ∀ o, (h.set a o).get m0 = some (.mp none (mapL cur)) := fun o => Heap.gs n1.symm h0
  have hN := hK _ hs1 k1
  cases cur with
  | none =>
    have hcop := scopied_ok hG [] 0 [] (Nat.zero_le _)
    refine fn_sv (hG _ AF.f12 rfl) rfl ?_
    ((conv => whnf); repeat ((first | refine SCall.app (hA _ _ _ _ hadd _) ?_ | refine SCall.app (Pure.call1 hcop (by ((repeat (first | exact trivial | refine ⟨by first | exact ce1_free rfl | exact .inl .nil | exact .inl .tok | exact .inl (.rows (by ((repeat (first | exact .nil | refine .cons (by ((repeat (first | exact .nil | refine .cons (by first | exact .refl _ | exact .nil _) ?_)); first | done | fail)) ?_)); first | done | fail))) | exact .inr (.inl ⟨_, _, rfl, rfl, (by ((repeat (first | exact trivial | refine ⟨by first | exact ce_flat rfl | exact .nil | exact .tok | exact .ren rfl (Nat.le_of_ble_eq_true rfl) | exact .rows (by ((repeat (first | exact .nil | refine .cons (by ((repeat (first | exact .nil | refine .cons (by first | exact .refl _ | exact .nil _) ?_)); first | done | fail)) ?_)); first | done | fail)), ?_⟩)); first | done | fail))⟩), ?_⟩)); first | done | fail)) rfl) ?_ | refine SEx.of (ha) ?_ | refine SEx.of (a1 _) ?_ | refine SEx.of (c1 _) ?_ | refine yf rfl ?_ | refine yt rfl ?_ | refine yo rfl ?_ | refine yc rfl ?_ | refine ys rfl ?_ | refine ye rfl ?_ | refine yn rfl ?_ | refine zw ?_ | refine zdt ?_ | refine zdf ?_ | refine znt ?_ | refine znf ?_ | refine zcd ?_ | refine zci ?_ | refine zc3 ?_) <;> (conv => whnf)))
    exact hN
  | some x =>
    obtain ⟨r, b⟩ := x
    have hcop := scopied_ok hG lS r b (by have := hb r b rfl; omega)
    refine fn_sv (hG _ AF.f12 rfl) rfl ?_
    ((conv => whnf); repeat ((first | refine SCall.app (hA _ _ _ _ hadd _) ?_ | refine SCall.app (Pure.go hcop rfl) ?_ | refine SEx.of (ha) ?_ | refine SEx.of (a1 _) ?_ | refine SEx.of (c1 _) ?_ | refine yf rfl ?_ | refine yt rfl ?_ | refine yo rfl ?_ | refine yc rfl ?_ | refine ys rfl ?_ | refine ye rfl ?_ | refine yn rfl ?_ | refine zw ?_ | refine zdt ?_ | refine zdf ?_ | refine znt ?_ | refine znf ?_ | refine zcd ?_ | refine zci ?_ | refine zc3 ?_) <;> (conv => whnf)))
    exact hN
end
end Go.Eng
