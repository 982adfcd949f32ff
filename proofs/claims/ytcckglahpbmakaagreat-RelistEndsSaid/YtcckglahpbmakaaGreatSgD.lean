/-
The store of many keys: new, read, watched, compacted.
-/
import Derived.Test.YtcckglahpbmakaaGreatSgC
set_option linter.unusedVariables false
set_option linter.unusedSimpArgs false
namespace Go.Eng
open Go
theorem StG.reads {h : Heap} {a m0 m1 lg : Nat} {rl : Option Nat} {R : Int} {D : List EnD} {T : List (Str × Int)} {L : List EvD} {base : Int} (hs : StG h a m0 m1 lg rl R D T L base) :
    ∃ (v : Int) (h1 : Heap) (rd wr : Int), addRun [.p (.g a) 4, .i .i64 1] h = some (.i .i64 v, h1) ∧ StG h1 a m0 m1 lg rl R D T L base ∧ Heap.Keeps (fun n => n = a) h h1 ∧ h1.get a = some (.cs [.i .i64 R, .m (.g m0), .m (.g m1), .p (.g lg) 0, .i .i64 rd, .i .i64 wr]) := by
  obtain ⟨rd, wr, ha⟩ := hs.ga
  obtain ⟨l1, l2, l3⟩ := hs.lt
  obtain ⟨n1, n2, n3, n4, n5, n6⟩ := hs.ne
  have hadd : addRun [.p (.g a) 4, .i .i64 1] h = some (.i .i64 (IntKind.i64.wrap (rd + 1)), h.set a (.cs [.i .i64 R, .m (.g m0), .m (.g m1), .p (.g lg) 0, .i .i64 (IntKind.i64.wrap (rd + 1)), .i .i64 wr])) := by simp only [addRun, ha]; rfl
  have k1 : Heap.Keeps (fun n => n = a) h (h.set a (.cs [.i .i64 R, .m (.g m0), .m (.g m1), .p (.g lg) 0, .i .i64 (IntKind.i64.wrap (rd + 1)), .i .i64 wr])) := Heap.Keeps.set (b := fun n => n = a) (.refl _ _) (.inl rfl) _
  exact ⟨_, _, _, wr, hadd, ⟨⟨l1, l2, l3⟩, hs.ne, hs.nr, ⟨_, wr, Heap.get_set_self ha⟩, (k1.same m0 l2 n1.symm).trans hs.g0, (k1.same m1 l3 n2.symm).trans hs.g1, hs.log.keep k1 n4.symm (fun k hk => (hs.nr k hk).1)⟩, k1, Heap.get_set_self ha⟩
section
variable {P : Program} (hG : FnsOk P AF.fns.get)
include hG
set_option maxHeartbeats 4000000 in
theorem snew_at {h : Heap} {K : V → Heap → Prop} (hK : ∀ h', StG h' (h.next + 3) h.next (h.next + 1) (h.next + 2) none 0 [] [] [] 0 → Heap.Keeps (fun _ => False) h h' → h'.next = h.next + 4 → K (.p (.g (h.next + 3)) 0) h') : ACall P 9 [] h K := by
  refine fn_sp (hG _ AF.f9 rfl) rfl ?_
  ((conv => whnf); repeat ((first | refine SCall.app (fn_sp (hG _ AF.f52 rfl) rfl) ?_ | refine yf rfl ?_ | refine yt rfl ?_ | refine yo rfl ?_ | refine yc rfl ?_ | refine ys rfl ?_ | refine ye rfl ?_ | refine yn rfl ?_ | refine zw ?_ | refine zdt ?_ | refine zdf ?_ | refine znt ?_ | refine znf ?_ | refine zcd ?_ | refine zci ?_ | refine zc3 ?_) <;> (conv => whnf)))
  refine hK _ ⟨⟨?_, ?_, ?_⟩, ⟨by omega, by omega, by omega, by omega, by omega, by omega⟩, (fun k hk => by cases hk), ⟨0, 0, Heap.get_push_self _ _⟩, ?_, ?_, ⟨?_, .inl ⟨rfl, rfl, ?_⟩⟩⟩ (.push (.push (.push (.push (.refl _ _) _) _) _) _) rfl
  · show h.next + 3 < h.next + 1 + 1 + 1 + 1; omega
  · show h.next < h.next + 1 + 1 + 1 + 1; omega
  · show h.next + 1 < h.next + 1 + 1 + 1 + 1; omega
  · exact Heap.gp (by show h.next ≠ h.next + 1 + 1 + 1; omega) (Heap.gp (by show h.next ≠ h.next + 1 + 1; omega) (Heap.gp (by show h.next ≠ h.next + 1; omega) (Heap.get_push_self _ _)))
  · exact Heap.gp (by show h.next + 1 ≠ h.next + 1 + 1 + 1; omega) (Heap.gp (by show h.next + 1 ≠ h.next + 1 + 1; omega) (Heap.get_push_self _ _))
  · show h.next + 2 < h.next + 1 + 1 + 1 + 1; omega
  · exact Heap.gp (by show h.next + 2 ≠ h.next + 1 + 1 + 1; omega) (Heap.get_push_self _ _)
theorem srev_at {h : Heap} {a m0 m1 lg : Nat} {rl : Option Nat} {R : Int} {D : List EnD} {T : List (Str × Int)} {L : List EvD} {base : Int} (hs : StG h a m0 m1 lg rl R D T L base) {K : V → Heap → Prop} (hK : K (.i .i64 R) h) : ACall P 13 [.p (.g a) 0] h K := by
  obtain ⟨rd, wr, ha⟩ := hs.ga
  refine fn_sv (hG _ AF.f13 rfl) rfl ?_
  ((conv => whnf); repeat ((first | refine SEx.of (ha) ?_ | refine yf rfl ?_ | refine yt rfl ?_ | refine yo rfl ?_ | refine yc rfl ?_ | refine ys rfl ?_ | refine ye rfl ?_ | refine yn rfl ?_ | refine zw ?_ | refine zdt ?_ | refine zdf ?_ | refine znt ?_ | refine znf ?_ | refine zcd ?_ | refine zci ?_ | refine zc3 ?_) <;> (conv => whnf)))
  exact hK
theorem scompact_at {h : Heap} {a m0 m1 lg : Nat} {rl : Option Nat} {R : Int} {D : List EnD} {T : List (Str × Int)} {L : List EvD} {base : Int} (hs : StG h a m0 m1 lg rl R D T L base) (hn : L.length ≤ 1000) (rev : Int) {K : V → Heap → Prop}
    (hK : ∀ h', StG h' a m0 m1 lg rl R D T (L.filter fun x => decide (rev < x.e.rev)) (cutBase base R rev) → Heap.Keeps (ownsG a m0 m1 lg rl) h h' → K (.tup []) h') : ACall P 14 [.p (.g a) 0, .i .i64 rev] h K := by
  obtain ⟨rd, wr, ha⟩ := hs.ga
  obtain ⟨l1, l2, l3⟩ := hs.lt
  obtain ⟨n1, n2, n3, n4, n5, n6⟩ := hs.ne
  have hcut := fun (K : V → Heap → Prop) hK => lcut_at (K := K) hG hs.log (by omega) rev hK
  refine fn_sv (hG _ AF.f14 rfl) rfl ?_
  ((conv => whnf); repeat ((first | refine SCall.app (hcut _) ?_ | refine SEx.of (ha) ?_ | refine yf rfl ?_ | refine yt rfl ?_ | refine yo rfl ?_ | refine yc rfl ?_ | refine ys rfl ?_ | refine ye rfl ?_ | refine yn rfl ?_ | refine zw ?_ | refine zdt ?_ | refine zdf ?_ | refine znt ?_ | refine znf ?_ | refine zcd ?_ | refine zci ?_ | refine zc3 ?_) <;> (conv => whnf)))
  intro h' hl' hk'
  have hnx := hk'.next
  have hne : ∀ n, n < h.next → n ≠ lg → (∀ k, rl = some k → n ≠ k) → h'.get n = h.get n := fun n hn' h1' h2' => hk'.same n hn' (by rintro (e | e); exact h1' e; exact h2' n e rfl)
  exact hK h' ⟨⟨by omega, by omega, by omega⟩, hs.ne, hs.nr, ⟨rd, wr, (hne a l1 n4 (fun k hk => ((hs.nr k hk).1).symm)).trans ha⟩, (hne m0 l2 n5 (fun k hk => ((hs.nr k hk).2.1).symm)).trans hs.g0, (hne m1 l3 n6 (fun k hk => ((hs.nr k hk).2.2).symm)).trans hs.g1, hl'⟩
    (hk'.mono fun n _ e => by rcases e with e | e; exact .inr (.inr (.inr (.inl e))); exact .inr (.inr (.inr (.inr e))))
set_option maxHeartbeats 4000000 in
theorem swatch_at (hA : AddAt P) {h : Heap} {a m0 m1 lg : Nat} {rl : Option Nat} {R : Int} {D : List EnD} {T : List (Str × Int)} {L : List EvD} {base : Int} (hs : StG h a m0 m1 lg rl R D T L base) (hok : ∀ x ∈ L, EnOk x.e) (hn : L.length ≤ 1000) (rev : Int) {K : V → Heap → Prop}
    (hK : ∀ h' lv err, StG h' a m0 m1 lg rl R D T L base → Heap.Keeps (ownsG a m0 m1 lg rl) h h' →
      ((rev < base ∧ lv = .nils ∧ err = 7) ∨ (base ≤ rev ∧ R < rev ∧ lv = .nils ∧ err = 2) ∨ (base ≤ rev ∧ rev ≤ R ∧ EvsV lv (L.filter fun x => decide (rev < x.e.rev)) ∧ err = 0)) → K (.tup [lv, .i .i64 err]) h') :
    ACall P 61 [.p (.g a) 0, .i .i64 rev] h K := by
  obtain ⟨rd0, wr0, ha0⟩ := hs.ga
  obtain ⟨v, h1, rd, wr, hadd, hs1, k1, ha⟩ := hs.reads
  have hk1 : Heap.Keeps (ownsG a m0 m1 lg rl) h h1 := k1.mono fun _ _ e => .inl e
  have hfr := fun (K : V → Heap → Prop) (hK : (rev < base → K (.tup [.nils, .i .i64 7]) h1) ∧ (base ≤ rev → R < rev → K (.tup [.nils, .i .i64 2]) h1) ∧ (base ≤ rev → rev ≤ R → ∀ lv, EvsV lv (L.filter fun x => decide (rev < x.e.rev)) → K (.tup [lv, .i .i64 0]) h1)) => lfrom_at (K := K) hG hs1.log hok hn rev hK.1 hK.2.1 hK.2.2
  refine fn_sv (hG _ AF.f61 rfl) rfl ?_
  ((conv => whnf); repeat ((first | refine SCall.app (hA _ _ _ _ hadd _) ?_ | refine SEx.of (ha0) ?_ | refine SEx.of (ha) ?_ | refine yf rfl ?_ | refine yt rfl ?_ | refine yo rfl ?_ | refine yc rfl ?_ | refine ys rfl ?_ | refine ye rfl ?_ | refine yn rfl ?_ | refine zw ?_ | refine zdt ?_ | refine zdf ?_ | refine znt ?_ | refine znf ?_ | refine zcd ?_ | refine zci ?_ | refine zc3 ?_) <;> (conv => whnf)))
  refine SCall.app (hfr _) ?_
  refine ⟨fun c => ?_, fun c1 c2 => ?_, fun c1 c2 lv hlv => ?_⟩
  · ((conv => whnf); repeat ((first | refine yf rfl ?_ | refine yt rfl ?_ | refine yo rfl ?_ | refine yc rfl ?_ | refine ys rfl ?_ | refine ye rfl ?_ | refine yn rfl ?_ | refine zw ?_ | refine zdt ?_ | refine zdf ?_ | refine znt ?_ | refine znf ?_ | refine zcd ?_ | refine zci ?_ | refine zc3 ?_) <;> (conv => whnf)))
    exact hK h1 _ 7 hs1 hk1 (.inl ⟨c, rfl, rfl⟩)
  · ((conv => whnf); repeat ((first | refine yf rfl ?_ | refine yt rfl ?_ | refine yo rfl ?_ | refine yc rfl ?_ | refine ys rfl ?_ | refine ye rfl ?_ | refine yn rfl ?_ | refine zw ?_ | refine zdt ?_ | refine zdf ?_ | refine znt ?_ | refine znf ?_ | refine zcd ?_ | refine zci ?_ | refine zc3 ?_) <;> (conv => whnf)))
    exact hK h1 _ 2 hs1 hk1 (.inr (.inl ⟨c1, c2, rfl, rfl⟩))
  · rcases hlv with ⟨rfl, h6⟩ | rfl
    · ((conv => whnf); repeat ((first | refine yf rfl ?_ | refine yt rfl ?_ | refine yo rfl ?_ | refine yc rfl ?_ | refine ys rfl ?_ | refine ye rfl ?_ | refine yn rfl ?_ | refine zw ?_ | refine zdt ?_ | refine zdf ?_ | refine znt ?_ | refine znf ?_ | refine zcd ?_ | refine zci ?_ | refine zc3 ?_) <;> (conv => whnf)))
      exact hK h1 _ 0 hs1 hk1 (.inr (.inr ⟨c1, c2, .inl ⟨rfl, h6⟩, rfl⟩))
    · ((conv => whnf); repeat ((first | refine yf rfl ?_ | refine yt rfl ?_ | refine yo rfl ?_ | refine yc rfl ?_ | refine ys rfl ?_ | refine ye rfl ?_ | refine yn rfl ?_ | refine zw ?_ | refine zdt ?_ | refine zdf ?_ | refine znt ?_ | refine znf ?_ | refine zcd ?_ | refine zci ?_ | refine zc3 ?_) <;> (conv => whnf)))
      exact hK h1 _ 0 hs1 hk1 (.inr (.inr ⟨c1, c2, .inr rfl, rfl⟩))
set_option maxHeartbeats 4000000 in
theorem slist_at (hA : AddAt P) (hS : SortedOk P) {h : Heap} {a m0 m1 lg : Nat} {rl : Option Nat} {R : Int} {D Ls : List EnD} {T : List (Str × Int)} {L : List EvD} {base : Int} (hs0 : StG h a m0 m1 lg rl R D T L base) (hD : ∀ e ∈ D, EnOk e) (hn : D.length ≤ 100000) (hr : CaRel D Ls) {K : V → Heap → Prop}
    (hK : ∀ lv h', EnsV lv Ls → StG h' a m0 m1 lg rl R D T L base → Heap.Keeps (ownsG a m0 m1 lg rl) h h' → K lv h') : ACall P 12 [.p (.g a) 0] h K := by
  obtain ⟨rd0, wr0, ha0⟩ := hs0.ga
  obtain ⟨v, h1, rd, wr, hadd, hs1, k1, ha⟩ := hs0.reads
  have hk1 : Heap.Keeps (ownsG a m0 m1 lg rl) h h1 := k1.mono fun _ _ e => .inl e
  obtain ⟨l1, l2, l3⟩ := hs1.lt
  have h5 := hs1.g0
  have hsk := fun K => hS.keys (h1.push (.cs [.m (.g m0)])) h1.next m0 _ (D.map enP) (D.map (·.key)) (Heap.get_push_self _ _) rfl (Heap.gp (by omega) h5) (by simp [enP, Function.comp_def]) hr.nd (fun x hx => by
    obtain ⟨e, he, rfl⟩ := List.mem_map.1 hx
    exact (hD e he).key) (by simp; omega) (K := K)
  rw [hr.keys] at hsk
  have hlm : ((Ls.map (·.key)).map strR).length = Ls.length := by simp
  have hLn : Ls.length ≤ 100000 := by have := hr.len; omega
  have hk2 : Heap.Keeps (fun _ => False) h1 (h1.push (.cs [.m (.g m0)])) := .push (.refl _ _) _
  have hs2 := hs1.other hk2 (fun _ _ x => x)
  have g4 : (h1.push (.cs [.m (.g m0)])).get a = some (.cs [.i .i64 R, .m (.g m0), .m (.g m1), .p (.g lg) 0, .i .i64 rd, .i .i64 wr]) := Heap.gp (by omega) ha
  have g5 : (h1.push (.cs [.m (.g m0)])).get m0 = some (.mp none (D.map enP)) := Heap.gp (by omega) h5
  have hkk : Heap.Keeps (ownsG a m0 m1 lg rl) h (h1.push (.cs [.m (.g m0)])) := hk1.trans (hk2.mono fun _ _ e => e.elim)
  refine fn_sv (hG _ AF.f12 rfl) rfl ?_
  ((conv => whnf); repeat ((first | refine SCall.app (hA _ _ _ _ hadd _) ?_ | refine SCall.app (fn_sv (hG _ AF.f58 rfl) rfl) ?_ | refine SCall.app (hsk _) ?_ | refine SEx.of (ha0) ?_ | refine SEx.of (ha) ?_ | refine yf rfl ?_ | refine yt rfl ?_ | refine yo rfl ?_ | refine yc rfl ?_ | refine ys rfl ?_ | refine ye rfl ?_ | refine yn rfl ?_ | refine zw ?_ | refine zdt ?_ | refine zdf ?_ | refine znt ?_ | refine znf ?_ | refine zcd ?_ | refine zci ?_ | refine zc3 ?_) <;> (conv => whnf)))
  generalize h1.push (.cs [.m (.g m0)]) = hh at *
  refine SLoopV.by (fun q fr st => ∃ (i : Nat) (lo : Heap) (lv : V), i ≤ Ls.length ∧ q = Ls.length - i ∧ ((i = 0 ∧ lv = .nils) ∨ (0 < i ∧ ∃ t, lv = .sl (some (.l t)) 3 ((Ls.take i).map enR) ∧ t < lo.next ∧ lo.get t = some .spare)) ∧
      Fr.le [(19, .i .i64 i), (18, .i .i64 ((Ls.map (·.key)).map strR).length), (17, .sl none 1 ((Ls.map (·.key)).map strR)), (3, lv), (0, .p (.g a) 0)] fr ∧ st = ⟨hh, lo⟩)
    Ls.length ⟨0, _, .nils, Nat.zero_le _, rfl, .inl ⟨rfl, rfl⟩, (by repeat (first | exact Fr.le_nil | refine Fr.le_cons rfl ?_)), rfl⟩ ?_
  rintro q fr st ⟨i, lo, lv, hi, rfl, hlv, hle0, rfl⟩
  refine ⟨_, hle0, fun R hR => ?_⟩
  by_cases hin : i < Ls.length
  · have he := List.getElem?_eq_getElem hin
    have hem := List.getElem_mem hin
    generalize Ls[i] = e at he hem
    have hge := hr.get hem
    have hmf := mfind_en e.key D
    rw [hge] at hmf
    have hcp := scop_ok hG e (hD e (getE_mem hge))
    have hkx : ((Ls.map (·.key)).map strR)[((i : Nat) : Int).toNat]? = some (strR e.key) := by rw [Int.toNat_natCast, List.getElem?_map, List.getElem?_map, he]; rfl
    have htk : Ls.take (i + 1) = Ls.take i ++ [e] := by rw [List.take_add_one, he]; rfl
    have htl : ((Ls.take i).map enR).length = i := by simp; omega
    rcases hlv with ⟨rfl, rfl⟩ | ⟨hi0, t, rfl, ht1, ht2⟩
    · ((conv => whnf); repeat ((first | refine SIf.dt (by omega) ?_ | refine SChk.ix (by omega) (by omega) ?_ | refine SOpt.of hmf ?_ | refine SCall.app (Pure.go hcp rfl) ?_ | refine SEx.of (x := [enR e]) rfl ?_ | refine SWrap.w64 (by omega) (by omega) ?_ | refine SEx.of (hkx) ?_ | refine SEx.of (g4) ?_ | refine SEx.of (g5) ?_ | refine yf rfl ?_ | refine yt rfl ?_ | refine yo rfl ?_ | refine yc rfl ?_ | refine ys rfl ?_ | refine ye rfl ?_ | refine yn rfl ?_ | refine zw ?_ | refine zdt ?_ | refine zdf ?_ | refine znt ?_ | refine znf ?_ | refine zcd ?_ | refine zci ?_ | refine zc3 ?_) <;> (conv => whnf)))
      exact hR (Ls.length - (0 + 1)) _ _ (by omega) ⟨0 + 1, _, _, by omega, rfl, .inr ⟨by omega, lo.next + 1, by first | (rw [htk]; done) | (rw [htk]; rfl), Nat.lt_succ_self _, Heap.get_push_self _ _⟩, (by repeat (first | exact Fr.le_nil | refine Fr.le_cons rfl ?_)), rfl⟩
    · have p1 : (lo.push .spare).get t = some .spare := Heap.gp (by omega) ht2
      ((conv => whnf); repeat ((first | refine SIf.dt (by omega) ?_ | refine SChk.ix (by omega) (by omega) ?_ | refine SOpt.of hmf ?_ | refine SCall.app (Pure.go hcp rfl) ?_ | refine SChk.mk (by simp [roomOk]; omega) ?_ | refine SEx.of (x := [enR e]) rfl ?_ | refine SWrap.w64 (by omega) (by omega) ?_ | refine SEx.of (hkx) ?_ | refine SEx.of (g4) ?_ | refine SEx.of (g5) ?_ | refine SEx.of (p1) ?_ | refine yf rfl ?_ | refine yt rfl ?_ | refine yo rfl ?_ | refine yc rfl ?_ | refine ys rfl ?_ | refine ye rfl ?_ | refine yn rfl ?_ | refine zw ?_ | refine zdt ?_ | refine zdf ?_ | refine znt ?_ | refine znf ?_ | refine zcd ?_ | refine zci ?_ | refine zc3 ?_) <;> (conv => whnf)))
      exact hR (Ls.length - (i + 1)) _ _ (by omega) ⟨i + 1, _, _, by omega, rfl, .inr ⟨by omega, lo.next + 1, by first | (rw [htk, List.map_append]; done) | (rw [htk, List.map_append]; rfl), Nat.lt_succ_self _, Heap.get_push_self _ _⟩, (by repeat (first | exact Fr.le_nil | refine Fr.le_cons rfl ?_)), rfl⟩
  · obtain rfl : i = Ls.length := by omega
    rcases hlv with ⟨h6, rfl⟩ | ⟨hi0, t, rfl, ht1, ht2⟩
    · ((conv => whnf); repeat ((first | refine SIf.df (by omega) ?_ | refine yf rfl ?_ | refine yt rfl ?_ | refine yo rfl ?_ | refine yc rfl ?_ | refine ys rfl ?_ | refine ye rfl ?_ | refine yn rfl ?_ | refine zw ?_ | refine zdt ?_ | refine zdf ?_ | refine znt ?_ | refine znf ?_ | refine zcd ?_ | refine zci ?_ | refine zc3 ?_) <;> (conv => whnf)))
      exact hK _ _ (.inl ⟨rfl, List.length_eq_zero_iff.1 h6⟩) hs2 hkk
    · rw [List.take_length] at *
      ((conv => whnf); repeat ((first | refine SIf.df (by omega) ?_ | refine yf rfl ?_ | refine yt rfl ?_ | refine yo rfl ?_ | refine yc rfl ?_ | refine ys rfl ?_ | refine ye rfl ?_ | refine yn rfl ?_ | refine zw ?_ | refine zdt ?_ | refine zdf ?_ | refine znt ?_ | refine znf ?_ | refine zcd ?_ | refine zci ?_ | refine zc3 ?_) <;> (conv => whnf)))
      exact hK _ _ (.inr rfl) hs2 hkk
end
end Go.Eng
