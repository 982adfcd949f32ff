/-
The store of many keys: a txn without guards.
-/
import Derived.Test.YtcckglahpbmakaaGreatSgB
set_option linter.unusedVariables false
set_option linter.unusedSimpArgs false
namespace Go.Eng
open Go
def evW (r : Int) (ws : List WrD) : List EvD := ws.map fun w => ⟨⟨w.key, r, w.val⟩, w.gone⟩
structure WrMay (w : WrD) : Prop where
  key : 1 ≤ w.key.length ∧ w.key.length ≤ 20
  val : w.val.length ≤ 4000
theorem mayW_each : ∀ {S : List Str} {ws : List WrD}, mayW S ws = true → ∀ w ∈ ws, WrMay w
  | S, x :: r, h, w, hw => by
    unfold mayW oneW keyB at h
    simp only [Bool.and_eq_true, decide_eq_true_eq] at h
    cases hw with
    | head => exact ⟨h.1.1, h.1.2.2.2⟩
    | tail _ hw => exact mayW_each h.2 w hw
theorem mayT_each {ws : List WrD} (h : mayT ws = true) : (1 ≤ ws.length ∧ ws.length ≤ 64) ∧ ∀ w ∈ ws, WrMay w := by
  unfold mayT at h
  simp only [Bool.and_eq_true, decide_eq_true_eq] at h
  exact ⟨h.1, mayW_each h.2⟩
abbrev AddAt (P : Program) : Prop := ∀ (args : List V) (h : Heap) (r : V) (h' : Heap), addRun args h = some (r, h') → ∀ K : V → Heap → Prop, K r h' → ACall P 53 args h K
def putTs (T : List (Str × Int)) (r : Int) (ws : List WrD) : List (Str × Int) := ws.foldl (fun T w => putT T w.key r) T
section
variable {P : Program} (hG : FnsOk P AF.fns.get)
include hG
theorem scop_ok (e : EnD) (h : EnOk e) : Pure P 55 [.agg (enR e)] (· = .agg (enR e)) := by
  have hc := clone_byte hG e.val h.val
  refine pure_fn (hG _ AF.f55 rfl) rfl ?_
  ((conv => whnf); repeat ((first | refine SCall.app (Pure.go hc rfl) ?_ | refine yf rfl ?_ | refine yt rfl ?_ | refine yo rfl ?_ | refine yc rfl ?_ | refine ys rfl ?_ | refine ye rfl ?_ | refine yn rfl ?_ | refine zw ?_ | refine zdt ?_ | refine zdf ?_ | refine znt ?_ | refine znf ?_ | refine zcd ?_ | refine zci ?_ | refine zc3 ?_) <;> (conv => whnf)))
  exact pure_free rfl rfl
set_option maxHeartbeats 16000000 in
theorem gtxn_at (hA : AddAt P) {h : Heap} {a m0 m1 lg : Nat} {rl : Option Nat} {R : Int} {D : List EnD} {T : List (Str × Int)} {L : List EvD} {base : Int} (hs : StG h a m0 m1 lg rl R D T L base) (hbd : ∀ x ∈ L, base < x.e.rev ∧ x.e.rev ≤ R) (hbR : base ≤ R) (hR : 0 ≤ R ∧ R ≤ 4611686018427387904) (hn : L.length ≤ 64)
    (ws : List WrD) (hw : ∀ w ∈ ws, WrOk w) (hl : ws.length ≤ 9223372036854775807) {K : V → Heap → Prop}
    (hno : errT D ws ≠ 0 → ∀ h', StG h' a m0 m1 lg rl R D T L base → Heap.Keeps (ownsG a m0 m1 lg rl) h h' → K (.tup [.i .i64 0, .i .i64 (errT D ws)]) h')
    (hK : errT D ws = 0 → ∀ h' rl' base', base ≤ base' → base' ≤ R + 1 → StG h' a m0 m1 lg rl' (R + 1) ((evW (R + 1) ws).foldl stepE D) (putTs T (R + 1) ws) ((L ++ evW (R + 1) ws).filter fun x => decide (base' < x.e.rev)) base' → ((L ++ evW (R + 1) ws).filter fun x => decide (base' < x.e.rev)).length ≤ 64 →
      (∀ k, rl' = some k → rl = some k ∨ h.next ≤ k) → Heap.Keeps (ownsG a m0 m1 lg rl) h h' → K (.tup [.i .i64 (R + 1), .i .i64 0]) h') :
    ACall P 11 [.p (.g a) 0, .agg [.nils, .sl none 3 (ws.map wrR)]] h K := by
  have hwl : (ws.map wrR).length = ws.length := List.length_map _
  obtain ⟨rd, wr, ha⟩ := hs.ga
  obtain ⟨l1, l2, l3⟩ := hs.lt
  obtain ⟨n1, n2, n3, n4, n5, n6⟩ := hs.ne
  have hadd : addRun [.p (.g a) 5, .i .i64 1] h = some (.i .i64 (IntKind.i64.wrap (wr + 1)), h.set a (.cs [.i .i64 R, .m (.g m0), .m (.g m1), .p (.g lg) 0, .i .i64 rd, .i .i64 (IntKind.i64.wrap (wr + 1))])) := by simp only [addRun, ha]; rfl
  generalize IntKind.i64.wrap (wr + 1) = w2 at hadd
  obtain ⟨h1, hh1⟩ : ∃ h1 : Heap, h1 = h.set a (.cs [.i .i64 R, .m (.g m0), .m (.g m1), .p (.g lg) 0, .i .i64 rd, .i .i64 w2]) := ⟨_, rfl⟩
  have ha1 : h1.get a = some (.cs [.i .i64 R, .m (.g m0), .m (.g m1), .p (.g lg) 0, .i .i64 rd, .i .i64 w2]) := by rw [hh1]; exact Heap.get_set_self ha
  have k1 : Heap.Keeps (fun n => n = a) h h1 := by rw [hh1]; exact Heap.Keeps.set (b := fun n => n = a) (.refl _ _) (.inl rfl) _
  have hs1 : StG h1 a m0 m1 lg rl R D T L base := ⟨⟨by rw [hh1]; exact l1, by rw [hh1]; exact l2, by rw [hh1]; exact l3⟩, hs.ne, hs.nr, ⟨rd, w2, ha1⟩, (k1.same m0 l2 n1.symm).trans hs.g0, (k1.same m1 l3 n2.symm).trans hs.g1, hs.log.keep k1 n4.symm (fun k hk => (hs.nr k hk).1)⟩
  have hcan := fun (K : V → Heap → Prop) hK => gcan_at (K := K) hG hs1 ws hw hl hK
  rw [hh1] at hcan
  by_cases he : errT D ws = 0
  case neg =>
    refine fn_sv (hG _ AF.f11 rfl) rfl ?_
    ((conv => whnf); repeat ((first | refine SCall.app (hA _ _ _ _ hadd _) ?_ | refine SCall.app (hcan _) ?_ | refine SEx.of (ha) ?_ | refine yf rfl ?_ | refine yt rfl ?_ | refine yo rfl ?_ | refine yc rfl ?_ | refine ys rfl ?_ | refine ye rfl ?_ | refine yn rfl ?_ | refine zw ?_ | refine zdt ?_ | refine zdf ?_ | refine znt ?_ | refine znf ?_ | refine zcd ?_ | refine zci ?_ | refine zc3 ?_) <;> (conv => whnf)))
    rw [← hh1]
    intro h2 k2
    ((conv => whnf); repeat ((first | refine SIf.nt he ?_ | refine yf rfl ?_ | refine yt rfl ?_ | refine yo rfl ?_ | refine yc rfl ?_ | refine ys rfl ?_ | refine ye rfl ?_ | refine yn rfl ?_ | refine zw ?_ | refine zdt ?_ | refine zdf ?_ | refine znt ?_ | refine znf ?_ | refine zcd ?_ | refine zci ?_ | refine zc3 ?_) <;> (conv => whnf)))
    exact hno he h2 (hs1.other k2 (fun _ _ x => x)) ((k1.mono fun _ _ e => .inl e).trans (k2.mono fun _ _ e => e.elim))
  have hmt : mayT ws = true := by
    unfold errT at he
    cases hm : mayT ws with
    | true => rfl
    | false => rw [hm] at he; simp at he
  obtain ⟨⟨hw1, hw64⟩, hwo⟩ := mayT_each hmt
  refine fn_sv (hG _ AF.f11 rfl) rfl ?_
  rw [he] at hcan
  ((conv => whnf); repeat ((first | refine SCall.app (hA _ _ _ _ hadd _) ?_ | refine SCall.app (hcan _) ?_ | refine SEx.of (ha) ?_ | refine yf rfl ?_ | refine yt rfl ?_ | refine yo rfl ?_ | refine yc rfl ?_ | refine ys rfl ?_ | refine ye rfl ?_ | refine yn rfl ?_ | refine zw ?_ | refine zdt ?_ | refine zdf ?_ | refine znt ?_ | refine znf ?_ | refine zcd ?_ | refine zci ?_ | refine zc3 ?_) <;> (conv => whnf)))
  rw [← hh1]
  intro h2 k2
  have hs2 := hs1.other k2 (fun _ _ x => x)
  have ha2 : h2.get a = some (.cs [.i .i64 R, .m (.g m0), .m (.g m1), .p (.g lg) 0, .i .i64 rd, .i .i64 w2]) := (k2.same a hs1.lt.1 (fun x => x)).trans ha1
  have k12 : Heap.Keeps (fun n => n = a ∨ n = m0 ∨ n = m1) h h2 := (k1.mono fun _ _ e => .inl e).trans (k2.mono fun _ _ e => e.elim)
  have p1 : ∀ x, (h2.set a x).get a = some x := fun x => Heap.get_set_self ha2
  ((conv => whnf); repeat ((first | refine SWrap.w64 (by omega) (by omega) ?_ | refine SEx.of (ha2) ?_ | refine SEx.of (p1 _) ?_ | refine yf rfl ?_ | refine yt rfl ?_ | refine yo rfl ?_ | refine yc rfl ?_ | refine ys rfl ?_ | refine ye rfl ?_ | refine yn rfl ?_ | refine zw ?_ | refine zdt ?_ | refine zdf ?_ | refine znt ?_ | refine znf ?_ | refine zcd ?_ | refine zci ?_ | refine zc3 ?_) <;> (conv => whnf)))
  refine SLoopV.by (fun q fr st => ∃ (i : Nat) (hh lo : Heap) (ev : V), i ≤ ws.length ∧ q = ws.length - i ∧ hh.get a = some (.cs [.i .i64 (R + 1), .m (.g m0), .m (.g m1), .p (.g lg) 0, .i .i64 rd, .i .i64 w2]) ∧
      hh.get m0 = some (.mp none (((evW (R + 1) (ws.take i)).foldl stepE D).map enP)) ∧ hh.get m1 = some (.mp none ((putTs T (R + 1) (ws.take i)).map tsP)) ∧ Heap.Keeps (fun n => n = a ∨ n = m0 ∨ n = m1) h hh ∧
      ((i = 0 ∧ ev = .nils) ∨ (0 < i ∧ ∃ t, ev = .sl (some (.l t)) 4 ((evW (R + 1) (ws.take i)).map evR) ∧ t < lo.next ∧ lo.get t = some .spare)) ∧
      Fr.le [(32, .i .i64 i), (31, .i .i64 (ws.map wrR).length), (30, .sl none 3 (ws.map wrR)), (7, ev), (0, .p (.g a) 0)] fr ∧ st = ⟨hh, lo⟩)
    ws.length ⟨0, _, _, .nils, Nat.zero_le _, rfl, p1 _, Heap.gs n1.symm hs2.g0, Heap.gs n2.symm hs2.g1, Heap.Keeps.set (b := fun n => n = a ∨ n = m0 ∨ n = m1) k12 (.inl (.inl rfl)) _, .inl ⟨rfl, rfl⟩, (by repeat (first | exact Fr.le_nil | refine Fr.le_cons rfl ?_)), rfl⟩ ?_
  rintro q fr st ⟨i, hh, lo, ev, hi, rfl, ga, g0, g1, hk, hev, hle0, rfl⟩
  refine ⟨_, hle0, fun R1 hR1 => ?_⟩
  by_cases hin : i < ws.length
  · have hx := List.getElem?_eq_getElem hin
    have hxo := hwo _ (List.getElem_mem hin)
    generalize ws[i] = w at hx hxo
    have htk : ws.take (i + 1) = ws.take i ++ [w] := by rw [List.take_add_one, hx]; rfl
    have hev1 : evW (R + 1) (ws.take (i + 1)) = evW (R + 1) (ws.take i) ++ [⟨⟨w.key, R + 1, w.val⟩, w.gone⟩] := by rw [htk]; unfold evW; simp
    have hst : (evW (R + 1) (ws.take (i + 1))).foldl stepE D = stepE ((evW (R + 1) (ws.take i)).foldl stepE D) ⟨⟨w.key, R + 1, w.val⟩, w.gone⟩ := by rw [hev1, List.foldl_append]; rfl
    have hts : putTs T (R + 1) (ws.take (i + 1)) = putT (putTs T (R + 1) (ws.take i)) w.key (R + 1) := by rw [htk]; unfold putTs; rw [List.foldl_append]; rfl
    have hmt := mput_ts w.key (R + 1) (putTs T (R + 1) (ws.take i))
    rw [← hts] at hmt
    have hevl : ((evW (R + 1) (ws.take i)).map evR).length ≤ 100 := by unfold evW; simp; omega
    generalize putTs T (R + 1) (ws.take i) = T1 at g1 hmt
    generalize (evW (R + 1) (ws.take i)).foldl stepE D = D1 at g0 hst
    have hcop := scop_ok hG ⟨w.key, R + 1, w.val⟩ ⟨by have := hxo.val; show w.val.length * 1 ≤ _; omega, by have := hxo.key; show w.key.length ≤ _; omega⟩
    have a1 : ∀ o, (lo.push o).get lo.next = some o := fun o => Heap.get_push_self _ _
    have a2 : ∀ o o2, ((lo.push o).set lo.next o2).get lo.next = some o2 := fun o o2 => Heap.get_set_self (a1 _)
    have a3 : ∀ o o2 x, (((lo.push o).set lo.next o2).push x).get lo.next = some o2 := fun o o2 x => Heap.gp (by show lo.next ≠ lo.next + 1; omega) (a2 _ _)
    have b1 : ∀ x, (hh.set m1 x).get a = some (.cs [.i .i64 (R + 1), .m (.g m0), .m (.g m1), .p (.g lg) 0, .i .i64 rd, .i .i64 w2]) := fun x => Heap.gs n2 ga
    have b2 : ∀ x, (hh.set m1 x).get m0 = some (.mp none (D1.map enP)) := fun x => Heap.gs n3 g0
    have b3 : ∀ x y, ((hh.set m1 x).set m0 y).get a = some (.cs [.i .i64 (R + 1), .m (.g m0), .m (.g m1), .p (.g lg) 0, .i .i64 rd, .i .i64 w2]) := fun x y => Heap.gs n1 (b1 x)
    have b4 : ∀ x y, ((hh.set m1 x).set m0 y).get m0 = some y := fun x y => Heap.get_set_self (b2 x)
    have b5 : ∀ x y, ((hh.set m1 x).set m0 y).get m1 = some x := fun x y => Heap.gs n3.symm (Heap.get_set_self g1)
    have kk : ∀ x y, Heap.Keeps (fun n => n = a ∨ n = m0 ∨ n = m1) h ((hh.set m1 x).set m0 y) := fun x y => Heap.Keeps.set (b := fun n => n = a ∨ n = m0 ∨ n = m1) (Heap.Keeps.set (b := fun n => n = a ∨ n = m0 ∨ n = m1) hk (.inl (.inr (.inr rfl))) _) (.inl (.inr (.inl rfl))) _
    cases hgo : w.gone
    · have hrow : wrR w = [.s w.key, .sl none 1 (w.val.map byR), .b false] := by rw [← hgo]; rfl
      have hge := (map_get' (f := wrR) (j := ((i : Nat) : Int).toNat) (by omega) hx).trans (congrArg some hrow)
      rw [hgo] at hst hev1
      have hmp := mput_en ⟨w.key, R + 1, w.val⟩ D1
      have hst' : putE D1 ⟨w.key, R + 1, w.val⟩ = (evW (R + 1) (ws.take (i + 1))).foldl stepE D := hst.symm
      rw [hst'] at hmp
      rcases hev with ⟨hi0, rfl⟩ | ⟨hi0, t, rfl, ht1, ht2⟩
      · ((conv => whnf); repeat ((first | refine SIf.dt (show (i : Int) < (ws.map wrR).length by omega) ?_ | refine SCall.app (Pure.go hcop rfl) ?_ | refine SWrap.w64 (by omega) (by omega) ?_ | refine SEx.of (hge) ?_ | refine SEx.of (a2 _ _) ?_ | refine SEx.of (a1 _) ?_ | refine SEx.of (a3 _ _ _) ?_ | refine SEx.of (ga) ?_ | refine SEx.of (g0) ?_ | refine SEx.of (g1) ?_ | refine SEx.of (b1 _) ?_ | refine SEx.of (b2 _) ?_ | refine SEx.of (b3 _ _) ?_ | refine SEx.of (b4 _ _) ?_ | refine yf rfl ?_ | refine yt rfl ?_ | refine yo rfl ?_ | refine yc rfl ?_ | refine ys rfl ?_ | refine ye rfl ?_ | refine yn rfl ?_ | refine zw ?_ | refine zdt ?_ | refine zdf ?_ | refine znt ?_ | refine znf ?_ | refine zcd ?_ | refine zci ?_ | refine zc3 ?_) <;> (conv => whnf)))
        refine hR1 (ws.length - (i + 1)) _ _ (by omega) ⟨i + 1, _, _, .sl (some (.l (lo.next + 1 + 1))) 4 [[.i .i64 (R + 1), .s w.key, .sl none 1 (w.val.map byR), .b false]], by omega, rfl, b3 _ _, ?_, ?_, kk _ _, ?_, (by repeat (first | exact Fr.le_nil | refine Fr.le_cons rfl ?_)), rfl⟩
        · exact (b4 _ _).trans (congrArg (fun x => some (Obj.mp none x)) hmp)
        · exact (b5 _ _).trans (congrArg (fun x => some (Obj.mp none x)) hmt)
        · refine .inr ⟨by omega, lo.next + 1 + 1, ?_, Nat.lt_succ_self _, Heap.get_push_self _ _⟩
          rw [hev1, hi0]; rfl
      · have p0 : ∀ o o2, (((lo.push o).set lo.next o2).push .spare).get t = some .spare := fun o o2 => Heap.gp (by show t ≠ lo.next + 1; omega) (Heap.gs (by omega) (Heap.gp (by omega) ht2))
        ((conv => whnf); repeat ((first | refine SIf.dt (show (i : Int) < (ws.map wrR).length by omega) ?_ | refine SCall.app (Pure.go hcop rfl) ?_ | refine SWrap.w64 (by omega) (by omega) ?_ | refine SChk.mk (by simp [roomOk] at hevl ⊢; omega) ?_ | refine SEx.of (hge) ?_ | refine SEx.of (a2 _ _) ?_ | refine SEx.of (a1 _) ?_ | refine SEx.of (a3 _ _ _) ?_ | refine SEx.of (ga) ?_ | refine SEx.of (g0) ?_ | refine SEx.of (g1) ?_ | refine SEx.of (b1 _) ?_ | refine SEx.of (b2 _) ?_ | refine SEx.of (b3 _ _) ?_ | refine SEx.of (b4 _ _) ?_ | refine SEx.of (p0 _ _) ?_ | refine yf rfl ?_ | refine yt rfl ?_ | refine yo rfl ?_ | refine yc rfl ?_ | refine ys rfl ?_ | refine ye rfl ?_ | refine yn rfl ?_ | refine zw ?_ | refine zdt ?_ | refine zdf ?_ | refine znt ?_ | refine znf ?_ | refine zcd ?_ | refine zci ?_ | refine zc3 ?_) <;> (conv => whnf)))
        refine hR1 (ws.length - (i + 1)) _ _ (by omega) ⟨i + 1, _, _, .sl (some (.l (lo.next + 1 + 1))) 4 ((evW (R + 1) (ws.take i)).map evR ++ [[.i .i64 (R + 1), .s w.key, .sl none 1 (w.val.map byR), .b false]]), by omega, rfl, b3 _ _, ?_, ?_, kk _ _, ?_, (by repeat (first | exact Fr.le_nil | refine Fr.le_cons rfl ?_)), rfl⟩
        · exact (b4 _ _).trans (congrArg (fun x => some (Obj.mp none x)) hmp)
        · exact (b5 _ _).trans (congrArg (fun x => some (Obj.mp none x)) hmt)
        · refine .inr ⟨by omega, lo.next + 1 + 1, ?_, Nat.lt_succ_self _, Heap.get_push_self _ _⟩
          rw [hev1, List.map_append]; rfl
    · have hrow : wrR w = [.s w.key, .sl none 1 (w.val.map byR), .b true] := by rw [← hgo]; rfl
      have hge := (map_get' (f := wrR) (j := ((i : Nat) : Int).toNat) (by omega) hx).trans (congrArg some hrow)
      rw [hgo] at hst hev1
      have hmp := mdel_en w.key D1
      have hst' : delE D1 w.key = (evW (R + 1) (ws.take (i + 1))).foldl stepE D := hst.symm
      rw [hst'] at hmp
      rcases hev with ⟨hi0, rfl⟩ | ⟨hi0, t, rfl, ht1, ht2⟩
      · ((conv => whnf); repeat ((first | refine SIf.dt (show (i : Int) < (ws.map wrR).length by omega) ?_ | refine SWrap.w64 (by omega) (by omega) ?_ | refine SEx.of (hge) ?_ | refine SEx.of (a2 _ _) ?_ | refine SEx.of (a1 _) ?_ | refine SEx.of (a3 _ _ _) ?_ | refine SEx.of (ga) ?_ | refine SEx.of (g0) ?_ | refine SEx.of (g1) ?_ | refine SEx.of (b1 _) ?_ | refine SEx.of (b2 _) ?_ | refine SEx.of (b3 _ _) ?_ | refine SEx.of (b4 _ _) ?_ | refine yf rfl ?_ | refine yt rfl ?_ | refine yo rfl ?_ | refine yc rfl ?_ | refine ys rfl ?_ | refine ye rfl ?_ | refine yn rfl ?_ | refine zw ?_ | refine zdt ?_ | refine zdf ?_ | refine znt ?_ | refine znf ?_ | refine zcd ?_ | refine zci ?_ | refine zc3 ?_) <;> (conv => whnf)))
        refine hR1 (ws.length - (i + 1)) _ _ (by omega) ⟨i + 1, _, _, .sl (some (.l (lo.next + 1 + 1))) 4 [[.i .i64 (R + 1), .s w.key, .sl none 1 (w.val.map byR), .b true]], by omega, rfl, b3 _ _, ?_, ?_, kk _ _, ?_, (by repeat (first | exact Fr.le_nil | refine Fr.le_cons rfl ?_)), rfl⟩
        · exact (b4 _ _).trans (congrArg (fun x => some (Obj.mp none x)) hmp)
        · exact (b5 _ _).trans (congrArg (fun x => some (Obj.mp none x)) hmt)
        · refine .inr ⟨by omega, lo.next + 1 + 1, ?_, Nat.lt_succ_self _, Heap.get_push_self _ _⟩
          rw [hev1, hi0]; rfl
      · have p0 : ∀ o o2, (((lo.push o).set lo.next o2).push .spare).get t = some .spare := fun o o2 => Heap.gp (by show t ≠ lo.next + 1; omega) (Heap.gs (by omega) (Heap.gp (by omega) ht2))
        ((conv => whnf); repeat ((first | refine SIf.dt (show (i : Int) < (ws.map wrR).length by omega) ?_ | refine SWrap.w64 (by omega) (by omega) ?_ | refine SChk.mk (by simp [roomOk] at hevl ⊢; omega) ?_ | refine SEx.of (hge) ?_ | refine SEx.of (a2 _ _) ?_ | refine SEx.of (a1 _) ?_ | refine SEx.of (a3 _ _ _) ?_ | refine SEx.of (ga) ?_ | refine SEx.of (g0) ?_ | refine SEx.of (g1) ?_ | refine SEx.of (b1 _) ?_ | refine SEx.of (b2 _) ?_ | refine SEx.of (b3 _ _) ?_ | refine SEx.of (b4 _ _) ?_ | refine SEx.of (p0 _ _) ?_ | refine yf rfl ?_ | refine yt rfl ?_ | refine yo rfl ?_ | refine yc rfl ?_ | refine ys rfl ?_ | refine ye rfl ?_ | refine yn rfl ?_ | refine zw ?_ | refine zdt ?_ | refine zdf ?_ | refine znt ?_ | refine znf ?_ | refine zcd ?_ | refine zci ?_ | refine zc3 ?_) <;> (conv => whnf)))
        refine hR1 (ws.length - (i + 1)) _ _ (by omega) ⟨i + 1, _, _, .sl (some (.l (lo.next + 1 + 1))) 4 ((evW (R + 1) (ws.take i)).map evR ++ [[.i .i64 (R + 1), .s w.key, .sl none 1 (w.val.map byR), .b true]]), by omega, rfl, b3 _ _, ?_, ?_, kk _ _, ?_, (by repeat (first | exact Fr.le_nil | refine Fr.le_cons rfl ?_)), rfl⟩
        · exact (b4 _ _).trans (congrArg (fun x => some (Obj.mp none x)) hmp)
        · exact (b5 _ _).trans (congrArg (fun x => some (Obj.mp none x)) hmt)
        · refine .inr ⟨by omega, lo.next + 1 + 1, ?_, Nat.lt_succ_self _, Heap.get_push_self _ _⟩
          rw [hev1, List.map_append]; rfl
  · obtain rfl : i = ws.length := by omega
    rw [List.take_length] at g0 g1 hev
    rcases hev with ⟨hi0, rfl⟩ | ⟨hi0, t, rfl, ht1, ht2⟩
    · omega
    have hlog : LogG hh lg rl L base R := hs.log.keep hk (by rintro (e | e | e); exact n4 e.symm; exact n5 e.symm; exact n6 e.symm) (fun k hk' => by obtain ⟨r1, r2, r3⟩ := hs.nr k hk'; rintro (e | e | e); exact r1 e; exact r2 e; exact r3 e)
    have hel : (evW (R + 1) ws).length = ws.length := by unfold evW; simp
    have hadd2 := fun (K : V → Heap → Prop) hK => ladd_at (K := K) hG hlog hbd hbR (evW (R + 1) ws) (by omega) (fun x hx => by
      obtain ⟨w, hw', rfl⟩ := List.mem_map.1 hx
      have := hwo w hw'
      exact ⟨by have := this.val; show w.val.length * 1 ≤ _; omega, by have := this.key; show w.key.length ≤ _; omega⟩) (R := R + 1) (fun x hx => by
      obtain ⟨w, hw', rfl⟩ := List.mem_map.1 hx
      rfl) (by omega) (by omega) (by omega) hK
    ((conv => whnf); repeat ((first | refine SIf.df (show ¬ ((ws.length : Nat) : Int) < (ws.map wrR).length by omega) ?_ | refine SCall.app (hadd2 _) ?_ | refine SEx.of (ga) ?_ | refine yf rfl ?_ | refine yt rfl ?_ | refine yo rfl ?_ | refine yc rfl ?_ | refine ys rfl ?_ | refine ye rfl ?_ | refine yn rfl ?_ | refine zw ?_ | refine zdt ?_ | refine zdf ?_ | refine znt ?_ | refine znf ?_ | refine zcd ?_ | refine zci ?_ | refine zc3 ?_) <;> (conv => whnf)))
    intro h3 rl' base' hl3 hb1 hb2 hl64 hrl hk3
    have hnx := hk.next
    have hne3 : ∀ n, n < hh.next → n ≠ lg → (∀ k, rl = some k → n ≠ k) → h3.get n = hh.get n := fun n hn' h1' h2' => hk3.same n hn' (by rintro (e | e); exact h1' e; exact h2' n e rfl)
    have ga3 := (hne3 a (by omega) n4 (fun k hk' => ((hs.nr k hk').1).symm)).trans ga
    have g03 := (hne3 m0 (by omega) n5 (fun k hk' => ((hs.nr k hk').2.1).symm)).trans g0
    have g13 := (hne3 m1 (by omega) n6 (fun k hk' => ((hs.nr k hk').2.2).symm)).trans g1
    have hnx3 := hk3.next
    ((conv => whnf); repeat ((first | refine SEx.of (ga3) ?_ | refine yf rfl ?_ | refine yt rfl ?_ | refine yo rfl ?_ | refine yc rfl ?_ | refine ys rfl ?_ | refine ye rfl ?_ | refine yn rfl ?_ | refine zw ?_ | refine zdt ?_ | refine zdf ?_ | refine znt ?_ | refine znf ?_ | refine zcd ?_ | refine zci ?_ | refine zc3 ?_) <;> (conv => whnf)))
    refine hK he h3 rl' base' hb1 hb2 ⟨⟨by omega, by omega, by omega⟩, hs.ne, fun k hk' => ?_, ⟨rd, w2, ga3⟩, g03, g13, hl3⟩ hl64 (fun k hk' => ?_) ?_
    · rcases hrl k hk' with e | e
      · exact hs.nr k e
      · exact ⟨by omega, by omega, by omega⟩
    · rcases hrl k hk' with e | e
      · exact .inl e
      · exact .inr (by omega)
    · exact (hk.mono fun n _ e => by rcases e with e | e | e; exact .inl e; exact .inr (.inl e); exact .inr (.inr (.inl e))).trans (hk3.mono fun n _ e => by rcases e with e | e; exact .inr (.inr (.inr (.inl e))); exact .inr (.inr (.inr (.inr e))))
end
end Go.Eng
