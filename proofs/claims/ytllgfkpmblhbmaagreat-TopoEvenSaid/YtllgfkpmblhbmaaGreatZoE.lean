/-
TopoEven: pods that are to be even, placed one by one wherever they may be: no domain has more than the skew above the least.
-/
import Derived.Test.YtllgfkpmblhbmaaGreatZoA
import Derived.Test.YtllgfkpmblhbmaaGreatZoQ
import Derived.Test.YtllgfkpmblhbmaaGreatAfE
set_option linter.unusedVariables false
set_option linter.unusedSimpArgs false
namespace Go.Eng
open Go
theorem ev_ok {i : Nat} {k : Int} {x : Str} {t : Int} : (evP i k x t).fit ∧ PodRoom (evP i k x t) := by
  have t0 : TermsOk [] := ⟨Nat.zero_le _, fun _ h => by cases h⟩
  have t1 : TermsOk [exT] := ⟨show 1 ≤ _ by decide, fun y h => by rw [List.mem_singleton.1 h]; exact Nat.zero_le _⟩
  have r0 : TermsRoom [] := ⟨Nat.zero_le _, fun _ h => by cases h⟩
  have r1 : TermsRoom [exT] := ⟨show 1 * 48 ≤ _ by decide, fun y h => by rw [List.mem_singleton.1 h]; exact Nat.zero_le _⟩
  exact ⟨⟨⟨Nat.zero_le _, show 1 ≤ _ by decide, Nat.zero_le _, t0, t0, t1⟩, ⟨show in64 0 by decide, show in64 0 by decide, show in64 0 by decide⟩⟩, ⟨Nat.zero_le _, show 1 * 32 ≤ _ by decide, Nat.zero_le _, r0, r0, r1⟩⟩
theorem maxI_at (a b : Int) : maxI a b = a ∨ maxI a b = b := by
  unfold maxI
  split <;> omega
section
variable {P : Program} (hG : FnsOk P AF.fns.get)
include hG
set_option maxHeartbeats 16000000 in
set_option maxRecDepth 20000 in
theorem topoEven_ok (hk : okFn P 4 AF.te = true) (hI : InsOk P 64) (hb : ACall P 8 [] noG (fun r _ => r = .b true)) (hcmp : CmpOk P)
    (ds : List Int) (sk : Int) (ps : List Int) (hl : LenOk ds) (hlp : LenOk ps) : ACall P 4 [.sl none 1 (ds.map intR), .i .i64 sk, .sl none 1 (ps.map intR)] noG (fun r _ => r = .b true) := by
  have hlm : (ps.map intR).length = ps.length := List.length_map _
  have hzo := zones_ok hG ds hl
  unfold LenOk at hlp
  have s1 : sk.tmod 3 < 3 := Int.tmod_lt_of_pos sk (by decide)
  have s2 := Int.lt_tmod_of_pos sk (b := 3) (by decide)
  have s3 : (sk.tmod 3 + 3).tmod 3 < 3 := Int.tmod_lt_of_pos _ (by decide)
  have s4 : 0 ≤ (sk.tmod 3 + 3).tmod 3 := Int.tmod_nonneg _ (by omega)
  obtain ⟨k, hkk⟩ : ∃ k, k = 1 + (sk.tmod 3 + 3).tmod 3 := ⟨_, rfl⟩
  have hk1 : 1 ≤ k := by omega
  have hk3 : k ≤ 3 := by omega
  refine fn_sz hk rfl ?_
  ((conv => whnf); repeat ((first | refine yf rfl ?_ | refine yt rfl ?_ | refine yo rfl ?_ | refine yc rfl ?_ | refine ys rfl ?_ | refine ye rfl ?_ | refine yn rfl ?_ | refine zw ?_ | refine zdt ?_ | refine zdf ?_ | refine znt ?_ | refine znf ?_ | refine zcd ?_ | refine zci ?_ | refine zc3 ?_) <;> (conv => whnf)))
  refine ⟨hb.frame rfl fun v h' hv => ?_⟩
  subst hv
  refine ⟨rfl, ?_⟩
  ((conv => whnf); repeat ((first | refine yf rfl ?_ | refine yt rfl ?_ | refine yo rfl ?_ | refine yc rfl ?_ | refine ys rfl ?_ | refine ye rfl ?_ | refine yn rfl ?_ | refine zw ?_ | refine zdt ?_ | refine zdf ?_ | refine znt ?_ | refine znf ?_ | refine zcd ?_ | refine zci ?_ | refine zc3 ?_) <;> (conv => whnf)))
  refine SCall.mk (hzo.use rfl fun u _ hu => ?_)
  obtain ⟨N, rfl, hN⟩ := hu
  have h6 := hN.len
  obtain ⟨hnd, hsm⟩ := rowsZ hN
  have hlm2 : (N.map nodeR).length = N.length := List.length_map _
  ((conv => whnf); repeat ((first | refine yf rfl ?_ | refine yt rfl ?_ | refine yo rfl ?_ | refine yc rfl ?_ | refine ys rfl ?_ | refine ye rfl ?_ | refine yn rfl ?_ | refine zw ?_ | refine zdt ?_ | refine zdf ?_ | refine znt ?_ | refine znf ?_ | refine zcd ?_ | refine zci ?_ | refine zc3 ?_) <;> (conv => whnf)))
  rw [← hkk]
  refine SLoopZ.by (fun q fr st => ∃ (i : Nat) (l : List PodD), i ≤ ps.length ∧ i ≤ 20 ∧ q = 20 - i ∧ EvenTo N k i l ∧
      fr = [(10, .i .i64 i), (9, .sl none 3 [[.s [97, 112, 112], .i .i64 3, .sl none 1 []]]), (8, .p (.l 0) 0), (2, .sl none 1 (ps.map intR)), (1, .i .i64 k)] ∧
      st = ⟨noG, ⟨1, [(0, .cs [.sl none 6 (N.map nodeR), .sl none 16 (l.map podR)])]⟩⟩)
    20 ⟨_, _, ?_, 0, [], Nat.zero_le _, Nat.zero_le _, rfl, ⟨rfl, (fun _ h => by cases h), fun m _ n _ _ _ => by show (0 : Int) - 0 ≤ k; omega⟩, rfl, rfl⟩ ?_
  · exact tG [] [0]
  rintro q fr st ⟨i, l, hi, hi20, rfl, hev, rfl, rfl⟩ R hR
  have hal := hev.len
  have hlm3 : (l.map podR).length = l.length := List.length_map _
  by_cases hin : i < ps.length ∧ i < 20
  · obtain ⟨hi1, hi2⟩ := hin
    have he := List.getElem?_eq_getElem hi1
    generalize ps[i] = e at he
    have hpods : ∀ q ∈ l, q.fit ∧ PodRoom q := fun q hq => by
      obtain ⟨j, m, hj, _, _, rfl⟩ := hev.pod q hq
      exact ev_ok
    have hok : (⟨N, l⟩ : StD).ok := ⟨by show N.length ≤ _; omega, by show l.length ≤ _; omega, hnd, fun q hq => (hpods q hq).1, by show l.length * 248 ≤ _; omega⟩
    have hwr := where_ok hG hcmp ⟨N, l⟩ (evP i k [] 0) hok ev_ok.1 (hsm l) h6 hN.so
    have hwn := where_even hN hev (by omega) hk1
    have hst := fun x hx => even_step (x := x) hN hev (by omega) hk1 hx
    have hwle : (whereD ⟨N, l⟩ (evP i k [] 0)).length ≤ N.length := by
      unfold whereD
      rw [List.length_map]
      exact List.length_filter_le _ _
    generalize whereD ⟨N, l⟩ (evP i k [] 0) = ws at hwr hwn hst hwle
    cases ws with
    | nil =>
      have hno := hwn rfl
      ((conv => whnf); repeat ((first | refine wu8z (by omega) (by omega) ?_ | refine SCall.app (Pure.call1 hwr (by ((repeat (first | exact trivial | refine ⟨by first | exact ce1_free rfl | exact .inl .nil | exact .inl .tok | exact .inl (.rows (by ((repeat (first | exact .nil | refine .cons (by ((repeat (first | exact .nil | refine .cons (by first | exact .refl _ | exact .nil _) ?_)); first | done | fail)) ?_)); first | done | fail))) | exact .inr (.inl ⟨_, _, rfl, rfl, (by ((repeat (first | exact trivial | refine ⟨by first | exact ce_flat rfl | exact .nil | exact .tok | exact .ren rfl (Nat.le_of_ble_eq_true rfl) | exact .rows (by ((repeat (first | exact .nil | refine .cons (by ((repeat (first | exact .nil | refine .cons (by first | exact .refl _ | exact .nil _) ?_)); first | done | fail)) ?_)); first | done | fail)), ?_⟩)); first | done | fail))⟩), ?_⟩)); first | done | fail)) rfl) ?_ | refine yf rfl ?_ | refine yt rfl ?_ | refine yo rfl ?_ | refine yc rfl ?_ | refine ys rfl ?_ | refine ye rfl ?_ | refine yn rfl ?_ | refine zw ?_ | refine zdt ?_ | refine zdf ?_ | refine znt ?_ | refine znf ?_ | refine zcd ?_ | refine zci ?_ | refine zc3 ?_) <;> (conv => whnf)))
      refine SLoopZ.by (fun q fr st => ∃ j : Nat, j ≤ N.length ∧ q = N.length - j ∧
          fr = [(68, .i .i64 j), (67, .i .i64 (N.map nodeR).length), (66, .sl none 6 (N.map nodeR))] ∧
          st = ⟨noG, ⟨0, []⟩⟩)
        N.length ⟨_, _, ?_, 0, Nat.zero_le _, rfl, rfl, rfl⟩ ?_
      · exact tL0
      rintro q fr st ⟨j, hj9, rfl, rfl, rfl⟩ R' hR'
      (conv => whnf)
      refine SIf.ds (fun hlt => ?_) (fun hge => ?_)
      · have hj' : j < N.length := by omega
        have hq := List.getElem?_eq_getElem hj'
        have hqm := List.getElem_mem hj'
        generalize N[j] = n at hq hqm
        have hlab := rlabel_ok hG n.labels zoneS (by unfold LenOk; have := (hN.node n hqm).2.2.1; omega)
        rw [show (getD n.labels zoneS).2 = false from hno n hqm] at hlab
        ((conv => whnf); repeat ((first | refine SCall.app (Pure.go hlab rfl) ?_ | refine SEx.of (map_get' (by omega) hq) ?_ | refine yf rfl ?_ | refine yt rfl ?_ | refine yo rfl ?_ | refine yc rfl ?_ | refine ys rfl ?_ | refine ye rfl ?_ | refine yn rfl ?_ | refine zw ?_ | refine zdt ?_ | refine zdf ?_ | refine znt ?_ | refine znf ?_ | refine zcd ?_ | refine zci ?_ | refine zc3 ?_) <;> (conv => whnf)))
        refine hR' (N.length - (j + 1)) _ _ (by omega) ⟨_, _, ?_, j + 1, by omega, rfl, rfl, rfl⟩
        exact tL0
      · ((conv => whnf); repeat ((first | refine yf rfl ?_ | refine yt rfl ?_ | refine yo rfl ?_ | refine yc rfl ?_ | refine ys rfl ?_ | refine ye rfl ?_ | refine yn rfl ?_ | refine zw ?_ | refine zdt ?_ | refine zdf ?_ | refine znt ?_ | refine znf ?_ | refine zcd ?_ | refine zci ?_ | refine zc3 ?_) <;> (conv => whnf)))
    | cons x0 r0 =>
      have hll : (x0 :: r0).length ≤ 1000 := by
        omega
      obtain ⟨m, hm, hme, hb1, hb2⟩ := remL (x := e) (n := ((x0 :: r0).map strR).length) (Nat.succ_pos _) (by rw [List.length_map]; exact hll)
      rw [List.length_map] at hm
      have hxe := List.getElem?_eq_getElem hm
      have hxm := List.getElem_mem hm
      generalize (x0 :: r0)[m] = x at hxe hxm
      have hst1 := hst x hxm
      have hj : ∀ {t : Int}, t = m → t.toNat = m := fun h => by rw [h]; rfl
      have hw2 := fun hr => with_ok hG hI ⟨N, l⟩ (evP i k x 1) (by show N.length ≤ 1000; omega) hok (hsm l) (fun q hq => (hpods q hq).2) ev_ok.2 hr
      have hw2 := hw2 (by show l.length * 248 + 1000 ≤ _; omega)
      obtain ⟨L2, hL2⟩ : ∃ L2, L2 = putL l (evP i k x 1) := ⟨_, rfl⟩
      rw [show putD ⟨N, l⟩ (evP i k x 1) = ⟨N, L2⟩ by rw [hL2]; rfl] at hw2
      rw [← hL2] at hst1
      have hwl : ((x0 :: r0).map strR).length = (x0 :: r0).length := List.length_map _
      ((conv => whnf); repeat ((first | refine wu8z (by omega) (by omega) ?_ | refine SCall.app (Pure.call1 hwr (by ((repeat (first | exact trivial | refine ⟨by first | exact ce1_free rfl | exact .inl .nil | exact .inl .tok | exact .inl (.rows (by ((repeat (first | exact .nil | refine .cons (by ((repeat (first | exact .nil | refine .cons (by first | exact .refl _ | exact .nil _) ?_)); first | done | fail)) ?_)); first | done | fail))) | exact .inr (.inl ⟨_, _, rfl, rfl, (by ((repeat (first | exact trivial | refine ⟨by first | exact ce_flat rfl | exact .nil | exact .tok | exact .ren rfl (Nat.le_of_ble_eq_true rfl) | exact .rows (by ((repeat (first | exact .nil | refine .cons (by ((repeat (first | exact .nil | refine .cons (by first | exact .refl _ | exact .nil _) ?_)); first | done | fail)) ?_)); first | done | fail)), ?_⟩)); first | done | fail))⟩), ?_⟩)); first | done | fail)) rfl) ?_ | refine SWrap.w64 hb1 hb2 ?_ | refine SCall.app (Pure.call1 hw2 (by ((repeat (first | exact trivial | refine ⟨by first | exact ce1_free rfl | exact .inl .nil | exact .inl .tok | exact .inl (.rows (by ((repeat (first | exact .nil | refine .cons (by ((repeat (first | exact .nil | refine .cons (by first | exact .refl _ | exact .nil _) ?_)); first | done | fail)) ?_)); first | done | fail))) | exact .inr (.inl ⟨_, _, rfl, rfl, (by ((repeat (first | exact trivial | refine ⟨by first | exact ce_flat rfl | exact .nil | exact .tok | exact .ren rfl (Nat.le_of_ble_eq_true rfl) | exact .rows (by ((repeat (first | exact .nil | refine .cons (by ((repeat (first | exact .nil | refine .cons (by first | exact .refl _ | exact .nil _) ?_)); first | done | fail)) ?_)); first | done | fail)), ?_⟩)); first | done | fail))⟩), ?_⟩)); first | done | fail)) rfl) ?_ | refine SEx.of (map_get' (by omega) he) ?_ | refine SEx.of (map_get' (hj hme) hxe) ?_ | refine yf rfl ?_ | refine yt rfl ?_ | refine yo rfl ?_ | refine yc rfl ?_ | refine ys rfl ?_ | refine ye rfl ?_ | refine yn rfl ?_ | refine zw ?_ | refine zdt ?_ | refine zdf ?_ | refine znt ?_ | refine znf ?_ | refine zcd ?_ | refine zci ?_ | refine zc3 ?_) <;> (conv => whnf)))
      have hst1l := hst1.len
      have hlm4 : (L2.map podR).length = L2.length := List.length_map _
      have hpods2 : ∀ q ∈ L2, q.fit ∧ PodRoom q := fun q hq => by
        obtain ⟨j, m, hj, _, _, rfl⟩ := hst1.pod q hq
        exact ev_ok
      have hok2 : (⟨N, L2⟩ : StD).ok := ⟨by show N.length ≤ _; omega, by show L2.length ≤ _; omega, hnd, fun q hq => (hpods2 q hq).1, by show L2.length * 248 ≤ _; omega⟩
      have hcn := fun v => count_ok hG ⟨N, L2⟩ zoneS v [exT] hok2 ⟨show 1 ≤ _ by decide, fun y h => by rw [List.mem_singleton.1 h]; exact Nat.zero_le _⟩
      refine SLoopZ.by (fun q fr st => ∃ (j : Nat) (lo hi : Int), j ≤ N.length ∧ q = N.length - j ∧ LowOf N L2 lo hi ∧
          fr = [(104, .i .i64 j), (103, .i .i64 (N.map nodeR).length), (102, .sl none 6 (N.map nodeR)), (18, .i .i64 hi), (17, .i .i64 lo), (10, .i .i64 i), (9, .sl none 3 [[.s [97, 112, 112], .i .i64 3, .sl none 1 []]]), (8, .p (.l 0) 0), (2, .sl none 1 (ps.map intR)), (1, .i .i64 k)] ∧
          st = ⟨noG, ⟨1, [(0, .cs [.sl none 6 (N.map nodeR), .sl none 16 (L2.map podR)])]⟩⟩)
        N.length ⟨_, _, ?_, 0, 1073741824, 0, Nat.zero_le _, rfl, ⟨.inl rfl, .inl rfl⟩, rfl, rfl⟩ ?_
      · exact tG [] [0]
      rintro q fr st ⟨j, lo, hi, hj9, rfl, hlow, rfl, rfl⟩ R' hR'
      have hbd := hlow.bound (by omega)
      have hle := hlow.le hst1 hk1 (by omega)
      (conv => whnf)
      refine SIf.ds (fun hlt => ?_) (fun hge => ?_)
      · have hj' : j < N.length := by omega
        have hq := List.getElem?_eq_getElem hj'
        have hqm := List.getElem_mem hj'
        generalize N[j] = n at hq hqm
        have hlab := rlabel_ok hG n.labels zoneS (by unfold LenOk; have := (hN.node n hqm).2.2.1; omega)
        obtain ⟨⟨v, y⟩, hxy⟩ : ∃ z, domOf n = z := ⟨_, rfl⟩
        have hxy' : getD n.labels zoneS = (v, y) := hxy
        rw [hxy'] at hlab
        cases y
        · ((conv => whnf); repeat ((first | refine SCall.app (Pure.go hlab rfl) ?_ | refine SEx.of (map_get' (by omega) hq) ?_ | refine yf rfl ?_ | refine yt rfl ?_ | refine yo rfl ?_ | refine yc rfl ?_ | refine ys rfl ?_ | refine ye rfl ?_ | refine yn rfl ?_ | refine zw ?_ | refine zdt ?_ | refine zdf ?_ | refine znt ?_ | refine znf ?_ | refine zcd ?_ | refine zci ?_ | refine zc3 ?_) <;> (conv => whnf)))
          refine hR' (N.length - (j + 1)) _ _ (by omega) ⟨_, _, ?_, j + 1, lo, hi, by omega, rfl, hlow, rfl, rfl⟩
          exact tG [] [0]
        · have hc2 := hcn v
          rw [show countD ⟨N, L2⟩ zoneS v [exT] = cntD N L2 v from rfl] at hc2
          have hlow2 : LowOf N L2 (minI lo (cntD N L2 v)) (maxI hi (cntD N L2 v)) := by
            obtain ⟨l1, l2⟩ := hlow
            refine ⟨?_, ?_⟩
            · rcases minI_at lo (cntD N L2 v) with h | h
              · rw [h]; exact l1
              · rw [h]; exact .inr ⟨n, hqm, by rw [hxy], by rw [hxy]⟩
            · rcases maxI_at hi (cntD N L2 v) with h | h
              · rw [h]; exact l2
              · rw [h]; exact .inr ⟨n, hqm, by rw [hxy], by rw [hxy]⟩
          ((conv => whnf); repeat ((first | refine SCall.app (Pure.go hlab rfl) ?_ | refine SCall.app (Pure.go hc2 rfl) ?_ | refine SOpt.of (mn2 (z := minI lo (cntD N L2 v)) rfl) ?_ | refine SOpt.of (mx2 (z := maxI hi (cntD N L2 v)) rfl) ?_ | refine SEx.of (map_get' (by omega) hq) ?_ | refine yf rfl ?_ | refine yt rfl ?_ | refine yo rfl ?_ | refine yc rfl ?_ | refine ys rfl ?_ | refine ye rfl ?_ | refine yn rfl ?_ | refine zw ?_ | refine zdt ?_ | refine zdf ?_ | refine znt ?_ | refine znf ?_ | refine zcd ?_ | refine zci ?_ | refine zc3 ?_) <;> (conv => whnf)))
          refine hR' (N.length - (j + 1)) _ _ (by omega) ⟨_, _, ?_, j + 1, _, _, by omega, rfl, hlow2, rfl, rfl⟩
          exact tG [] [0]
      · ((conv => whnf); repeat ((first | refine yf rfl ?_ | refine yt rfl ?_ | refine yo rfl ?_ | refine yc rfl ?_ | refine ys rfl ?_ | refine ye rfl ?_ | refine yn rfl ?_ | refine zw ?_ | refine zdt ?_ | refine zdf ?_ | refine znt ?_ | refine znf ?_ | refine zcd ?_ | refine zci ?_ | refine zc3 ?_) <;> (conv => whnf)))
        refine hR (20 - (i + 1)) _ _ (by omega) ⟨_, _, ?_, i + 1, L2, by omega, by omega, rfl, hst1, rfl, rfl⟩
        exact tG [] [0]
  · have h8 : ¬ i < ps.length ∨ (i < ps.length ∧ ¬ i < 20) := by omega
    rcases h8 with h1 | ⟨h1, h2⟩
    all_goals ((conv => whnf); repeat ((first | refine yf rfl ?_ | refine yt rfl ?_ | refine yo rfl ?_ | refine yc rfl ?_ | refine ys rfl ?_ | refine ye rfl ?_ | refine yn rfl ?_ | refine zw ?_ | refine zdt ?_ | refine zdf ?_ | refine znt ?_ | refine znf ?_ | refine zcd ?_ | refine zci ?_ | refine zc3 ?_) <;> (conv => whnf)))
end
end Go.Eng
