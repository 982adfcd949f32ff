/-
TopoApart: pods that keep apart, placed wherever they may be: no two of them are in one domain.
-/
import Derived.Test.YtllgfkpmblhbmaaGreatZoZ
import Derived.Test.YtllgfkpmblhbmaaGreatFitW
import Derived.Test.YtllgfkpmblhbmaaGreatWiB
import Derived.Test.YtllgfkpmblhbmaaGreatRLa
import Derived.Test.YtllgfkpmblhbmaaGreatWiT
import Derived.Test.YtllgfkpmblhbmaaGreatAfB
set_option linter.unusedVariables false
set_option linter.unusedSimpArgs false
namespace Go.Eng
open Go
theorem mputS_old : ∀ {S : List Str} {x : Str}, x ∈ S → mput (seenS S) (.s x) (.b true) = seenS S
  | y :: r, x, h => by
    simp only [seenS, List.map_cons, mput]
    by_cases hxy : x = y
    · subst hxy
      rw [keyEq_t]
      rfl
    · rw [keyEq_f hxy]
      have hr : x ∈ r := by
        cases h with
        | head => exact absurd rfl hxy
        | tail _ h => exact h
      have := mputS_old hr
      simp only [seenS] at this
      simp only [Bool.false_eq_true, if_false, this]
theorem ceM_oldS {ρ : Ren} {b : Lim} {F : Fz} {S : List Str} {x : Str} (h : x ∈ S) : CeM ρ b F (mput (seenS S) (.s x) (.b true)) (seenS S) := by
  rw [mputS_old h]; exact ceM_seenS _
theorem ceM_newS {ρ : Ren} {b : Lim} {F : Fz} {S : List Str} {x : Str} (h : x ∉ S) : CeM ρ b F (mput (seenS S) (.s x) (.b true)) (seenS (S ++ [x])) := by
  rw [mputS_new h]; exact ceM_seenS _
theorem ap_ok {i : Nat} {x : Str} {t : Int} (hi : i ≤ 100) : (apP i x t).fit ∧ PodRoom (apP i x t) := by
  have t0 : TermsOk [] := ⟨Nat.zero_le _, fun _ h => by cases h⟩
  have t1 : TermsOk [exT] := ⟨show 1 ≤ _ by decide, fun y h => by rw [List.mem_singleton.1 h]; exact Nat.zero_le _⟩
  have r0 : TermsRoom [] := ⟨Nat.zero_le _, fun _ h => by cases h⟩
  have r1 : TermsRoom [exT] := ⟨show 1 * 48 ≤ _ by decide, fun y h => by rw [List.mem_singleton.1 h]; exact Nat.zero_le _⟩
  exact ⟨⟨⟨Nat.zero_le _, show 1 ≤ _ by decide, Nat.zero_le _, t0, t1, t0⟩, ⟨show in64 0 by decide, show in64 0 by decide, show in64 0 by decide⟩⟩, ⟨Nat.zero_le _, show 1 * 32 ≤ _ by decide, Nat.zero_le _, r0, r1, r0⟩⟩
theorem rowsZ {N : List NodeD} (h : ZonesOf N) : (∀ n ∈ N, n.ok) ∧ ∀ l, Small ⟨N, l⟩ := by
  constructor
  · intro n hn
    obtain ⟨_, h2, h3, _⟩ := h.node n hn
    exact ⟨by unfold LenOk; omega, by unfold LenOk; rw [h2]; exact Nat.zero_le _⟩
  · intro l n hn
    obtain ⟨_, h2, h3, _⟩ := h.node n hn
    exact ⟨by omega, by rw [h2]; exact Nat.zero_le _⟩
theorem remL {x : Int} {n : Nat} (hn : 0 < n) (hb : n ≤ 1000) : ∃ m : Nat, m < n ∧ (x.tmod n + n).tmod n = (m : Int) ∧ (-9223372036854775808 ≤ x.tmod n + n ∧ x.tmod n + n ≤ 9223372036854775807) := by
  have h1 : x.tmod n < n := Int.tmod_lt_of_pos x (by omega)
  have h2 := Int.lt_tmod_of_pos x (b := (n : Int)) (by omega)
  refine ⟨((x.tmod n + n).tmod n).toNat, ?_, ?_, by omega⟩
  · have h3 : (x.tmod n + n).tmod n < n := Int.tmod_lt_of_pos _ (by omega)
    have h4 : 0 ≤ (x.tmod n + n).tmod n := Int.tmod_nonneg _ (by omega)
    omega
  · have h4 : 0 ≤ (x.tmod n + n).tmod n := Int.tmod_nonneg _ (by omega)
    omega
section
variable {P : Program} (hG : FnsOk P AF.fns.get)
include hG
set_option maxHeartbeats 16000000 in
set_option maxRecDepth 20000 in
theorem topoApart_ok (hk : okFn P 5 AF.ta = true) (hI : InsOk P 64) (hb : ACall P 8 [] noG (fun r _ => r = .b true)) (hcmp : CmpOk P)
    (ds ps : List Int) (hl : LenOk ds) (hlp : LenOk ps) : ACall P 5 [.sl none 1 (ds.map intR), .sl none 1 (ps.map intR)] noG (fun r _ => r = .b true) := by
  have hlm : (ps.map intR).length = ps.length := List.length_map _
  have hzo := zones_ok hG ds hl
  unfold LenOk at hlp
  refine fn_sz hk rfl ?_
  ((conv => whnf); repeat ((first | refine yf rfl ?_ | refine yt rfl ?_ | refine yo rfl ?_ | refine yc rfl ?_ | refine ys rfl ?_ | refine ye rfl ?_ | refine yn rfl ?_ | refine zw ?_ | refine zdt ?_ | refine zdf ?_ | refine znt ?_ | refine znf ?_ | refine zcd ?_ | refine zci ?_ | refine zc3 ?_) <;> (conv => whnf)))
  refine ⟨hb.frame rfl fun v h' hv => ?_⟩
  subst hv
  refine ⟨rfl, ?_⟩
  ((conv => whnf); repeat ((first | refine yf rfl ?_ | refine yt rfl ?_ | refine yo rfl ?_ | refine yc rfl ?_ | refine ys rfl ?_ | refine ye rfl ?_ | refine yn rfl ?_ | refine zw ?_ | refine zdt ?_ | refine zdf ?_ | refine znt ?_ | refine znf ?_ | refine zcd ?_ | refine zci ?_ | refine zc3 ?_) <;> (conv => whnf)))
  refine SCall.mk (hzo.use rfl fun u _ hu => ?_)
  obtain ⟨N, rfl, hN⟩ := hu
  have h6 := hN.len
  obtain ⟨hnd, hsm⟩ := rowsZ hN
  have hlm2 : (N.map nodeR).length = N.length := List.length_map _
  ((conv => whnf); repeat ((first | refine yf rfl ?_ | refine yt rfl ?_ | refine yo rfl ?_ | refine yc rfl ?_ | refine ys rfl ?_ | refine ye rfl ?_ | refine yn rfl ?_ | refine zw ?_ | refine zdt ?_ | refine zdf ?_ | refine znt ?_ | refine znf ?_ | refine zcd ?_ | refine zci ?_ | refine zc3 ?_) <;> (conv => whnf)))
  refine SLoopZ.by (fun q fr st => ∃ (m : Nat) (D : List Str), m ≤ N.length ∧ q = N.length - m ∧ D.Nodup ∧ (∀ v, v ∈ D ↔ ∃ n ∈ N.take m, domOf n = (v, true)) ∧
      fr = [(28, .i .i64 m), (27, .i .i64 (N.map nodeR).length), (26, .sl none 6 (N.map nodeR)), (7, .m (.g 0)), (6, .p (.l 0) 0), (1, .sl none 1 (ps.map intR))] ∧
      st = ⟨⟨1, [(0, .mp none (seenS D))]⟩, ⟨1, [(0, .cs [.sl none 6 (N.map nodeR), .sl none 16 (([] : List PodD).map podR)])]⟩⟩)
    N.length ⟨_, _, ?_, 0, [], Nat.zero_le _, rfl, .nil, (fun v => by simp), rfl, rfl⟩ ?_
  · exact tG [0] [0]
  rintro q fr st ⟨m, D, hm, rfl, hDn, hD, rfl, rfl⟩ R hR
  (conv => whnf)
  refine SIf.ds (fun hlt => ?_) (fun hge => ?_)
  · have hm' : m < N.length := by omega
    have he := List.getElem?_eq_getElem hm'
    have hem := List.getElem_mem hm'
    generalize N[m] = e at he hem
    have hlab := rlabel_ok hG e.labels zoneS (by unfold LenOk; have := (hN.node e hem).2.2.1; omega)
    obtain ⟨⟨x, y⟩, hxy⟩ : ∃ z, domOf e = z := ⟨_, rfl⟩
    have hxy' : getD e.labels zoneS = (x, y) := hxy
    rw [hxy'] at hlab
    cases y
    · ((conv => whnf); repeat ((first | refine SCall.app (Pure.go hlab rfl) ?_ | refine SEx.of (map_get' (by omega) he) ?_ | refine yf rfl ?_ | refine yt rfl ?_ | refine yo rfl ?_ | refine yc rfl ?_ | refine ys rfl ?_ | refine ye rfl ?_ | refine yn rfl ?_ | refine zw ?_ | refine zdt ?_ | refine zdf ?_ | refine znt ?_ | refine znf ?_ | refine zcd ?_ | refine zci ?_ | refine zc3 ?_) <;> (conv => whnf)))
      refine hR (N.length - (m + 1)) _ _ (by omega) ⟨_, _, ?_, m + 1, D, by omega, rfl, hDn, (fun v => by
        rw [hD, take_succ' he]
        constructor
        · rintro ⟨n, h1, h2⟩; exact ⟨n, List.mem_append.2 (.inl h1), h2⟩
        · rintro ⟨n, h1, h2⟩
          rcases List.mem_append.1 h1 with h1 | h1
          · exact ⟨n, h1, h2⟩
          · rw [List.mem_singleton.1 h1, hxy] at h2; cases h2), rfl, rfl⟩
      exact tG [0] [0] (hg := ⟨⟨Nat.le_of_ble_eq_true rfl, rfl, _, rfl, ⟨rfl, ceM_seenS _⟩⟩, trivial⟩)
    · have hput : ∀ T : List Str, (∀ v, v ∈ T ↔ v ∈ D ∨ v = x) → ∀ v, v ∈ T ↔ ∃ n ∈ N.take (m + 1), domOf n = (v, true) := fun T hT v => by
        rw [hT, hD, take_succ' he]
        constructor
        · rintro (⟨n, h1, h2⟩ | rfl)
          · exact ⟨n, List.mem_append.2 (.inl h1), h2⟩
          · exact ⟨e, List.mem_append.2 (.inr (.head _)), hxy⟩
        · rintro ⟨n, h1, h2⟩
          rcases List.mem_append.1 h1 with h1 | h1
          · exact .inl ⟨n, h1, h2⟩
          · rw [List.mem_singleton.1 h1, hxy] at h2
            cases h2
            exact .inr rfl
      by_cases hx : x ∈ D
      · ((conv => whnf); repeat ((first | refine SCall.app (Pure.go hlab rfl) ?_ | refine SEx.of (map_get' (by omega) he) ?_ | refine yf rfl ?_ | refine yt rfl ?_ | refine yo rfl ?_ | refine yc rfl ?_ | refine ys rfl ?_ | refine ye rfl ?_ | refine yn rfl ?_ | refine zw ?_ | refine zdt ?_ | refine zdf ?_ | refine znt ?_ | refine znf ?_ | refine zcd ?_ | refine zci ?_ | refine zc3 ?_) <;> (conv => whnf)))
        refine hR (N.length - (m + 1)) _ _ (by omega) ⟨_, _, ?_, m + 1, D, by omega, rfl, hDn, hput D (fun v => ⟨.inl, fun h => h.elim id fun h => h ▸ hx⟩), rfl, rfl⟩
        exact tG [0] [0] (hg := ⟨⟨Nat.le_of_ble_eq_true rfl, rfl, _, rfl, ⟨rfl, ceM_oldS hx⟩⟩, trivial⟩)
      · ((conv => whnf); repeat ((first | refine SCall.app (Pure.go hlab rfl) ?_ | refine SEx.of (map_get' (by omega) he) ?_ | refine yf rfl ?_ | refine yt rfl ?_ | refine yo rfl ?_ | refine yc rfl ?_ | refine ys rfl ?_ | refine ye rfl ?_ | refine yn rfl ?_ | refine zw ?_ | refine zdt ?_ | refine zdf ?_ | refine znt ?_ | refine znf ?_ | refine zcd ?_ | refine zci ?_ | refine zc3 ?_) <;> (conv => whnf)))
        refine hR (N.length - (m + 1)) _ _ (by omega) ⟨_, _, ?_, m + 1, D ++ [x], by omega, rfl, (by
          rw [List.nodup_append]
          exact ⟨hDn, by simp, fun a ha b hb => by rw [List.mem_singleton.1 hb]; rintro rfl; exact hx ha⟩), hput (D ++ [x]) (fun v => by simp), rfl, rfl⟩
        exact tG [0] [0] (hg := ⟨⟨Nat.le_of_ble_eq_true rfl, rfl, _, rfl, ⟨rfl, ceM_newS hx⟩⟩, trivial⟩)
  · clear hR
    have hDo : Doms N D := ⟨hDn, fun v => by rw [hD, List.take_of_length_le (by omega)]⟩
    clear hD
    have hDl : (seenS D).length = D.length := List.length_map _
    ((conv => whnf); repeat ((first | refine yf rfl ?_ | refine yt rfl ?_ | refine yo rfl ?_ | refine yc rfl ?_ | refine ys rfl ?_ | refine ye rfl ?_ | refine yn rfl ?_ | refine zw ?_ | refine zdt ?_ | refine zdf ?_ | refine znt ?_ | refine znf ?_ | refine zcd ?_ | refine zci ?_ | refine zc3 ?_) <;> (conv => whnf)))
    refine SLoopZ.by (fun q fr st => ∃ (i : Nat) (l : List PodD), i ≤ ps.length ∧ i ≤ 8 ∧ q = 8 - i ∧ ApartTo N i l ∧
        fr = [(13, .i .i64 i), (12, .i .i64 i), (7, .m (.g 0)), (6, .p (.l 0) 0), (1, .sl none 1 (ps.map intR))] ∧
        st = ⟨⟨1, [(0, .mp none (seenS D))]⟩, ⟨1, [(0, .cs [.sl none 6 (N.map nodeR), .sl none 16 (l.map podR)])]⟩⟩)
      8 ⟨_, _, ?_, 0, [], Nat.zero_le _, Nat.zero_le _, rfl, ⟨rfl, (fun _ h => by cases h), .nil⟩, rfl, rfl⟩ ?_
    · exact tG [0] [0] (hg := ⟨⟨Nat.le_of_ble_eq_true rfl, rfl, _, rfl, ⟨rfl, ceM_seenS _⟩⟩, trivial⟩)
    rintro q fr st ⟨i, l, hi, hi8, rfl, hap, rfl, rfl⟩ R hR
    have hal := hap.len
    have hlm3 : (l.map podR).length = l.length := List.length_map _
    by_cases hin : i < ps.length ∧ i < 8
    · obtain ⟨hi1, hi2⟩ := hin
      have he := List.getElem?_eq_getElem hi1
      generalize ps[i] = e at he
      have hpods : ∀ q ∈ l, q.fit ∧ PodRoom q := fun q hq => by
        obtain ⟨j, m, hj, _, _, rfl⟩ := hap.pod q hq
        exact ap_ok (by omega)
      have hok : (⟨N, l⟩ : StD).ok := ⟨by show N.length ≤ _; omega, by show l.length ≤ _; omega, hnd, fun q hq => (hpods q hq).1, by show l.length * 248 ≤ _; omega⟩
      have hwr := where_ok hG hcmp ⟨N, l⟩ (apP i [] 0) hok (ap_ok (by omega)).1 (hsm l) h6 hN.so
      have hwn := where_apart hN hap (by omega) hDo
      have hst := fun x hx => apart_step (x := x) hN hap (by omega) hx
      have hwle : (whereD ⟨N, l⟩ (apP i [] 0)).length ≤ N.length := by
        unfold whereD
        rw [List.length_map]
        exact List.length_filter_le _ _
      generalize whereD ⟨N, l⟩ (apP i [] 0) = ws at hwr hwn hst hwle
      cases ws with
      | nil =>
        have hiD : i = D.length := hwn.1 rfl
        have hc : (!(decide (((([] : List Str).map strR).length : Int) = 0) == decide ((i : Int) = ((seenS D).length : Int)) && true)) = false := by
          rw [hDl, ← hiD]; simp
        ((conv => whnf); repeat ((first | refine wu8z (by omega) (by omega) ?_ | refine SCall.app (Pure.call1 hwr (by ((repeat (first | exact trivial | refine ⟨by first | exact ce1_free rfl | exact .inl .nil | exact .inl .tok | exact .inl (.rows (by ((repeat (first | exact .nil | refine .cons (by ((repeat (first | exact .nil | refine .cons (by first | exact .refl _ | exact .nil _) ?_)); first | done | fail)) ?_)); first | done | fail))) | exact .inr (.inl ⟨_, _, rfl, rfl, (by ((repeat (first | exact trivial | refine ⟨by first | exact ce_flat rfl | exact .nil | exact .tok | exact .ren rfl (Nat.le_of_ble_eq_true rfl) | exact .rows (by ((repeat (first | exact .nil | refine .cons (by ((repeat (first | exact .nil | refine .cons (by first | exact .refl _ | exact .nil _) ?_)); first | done | fail)) ?_)); first | done | fail)), ?_⟩)); first | done | fail))⟩), ?_⟩)); first | done | fail)) rfl) ?_ | refine SIf.ff hc ?_ | refine yf rfl ?_ | refine yt rfl ?_ | refine yo rfl ?_ | refine yc rfl ?_ | refine ys rfl ?_ | refine ye rfl ?_ | refine yn rfl ?_ | refine zw ?_ | refine zdt ?_ | refine zdf ?_ | refine znt ?_ | refine znf ?_ | refine zcd ?_ | refine zci ?_ | refine zc3 ?_) <;> (conv => whnf)))
      | cons x0 r0 =>
        have hiD : ¬ i = D.length := fun h => by cases hwn.2 h
        have hc : (!(decide ((((x0 :: r0).map strR).length : Int) = 0) == decide ((i : Int) = ((seenS D).length : Int)) && true)) = false := by
          rw [hDl, decide_eq_false (show ¬ ((((x0 :: r0).map strR).length : Int) = 0) by simp only [List.map_cons, List.length_cons]; omega), decide_eq_false (show ¬ ((i : Int) = (D.length : Int)) by omega)]; rfl
        have hll : (x0 :: r0).length ≤ 1000 := by
          omega
        obtain ⟨m, hm, hme, hb1, hb2⟩ := remL (x := e) (n := ((x0 :: r0).map strR).length) (Nat.succ_pos _) (by rw [List.length_map]; exact hll)
        rw [List.length_map] at hm
        have hxe := List.getElem?_eq_getElem hm
        have hxm := List.getElem_mem hm
        generalize (x0 :: r0)[m] = x at hxe hxm
        obtain ⟨hst1, hst2⟩ := hst x hxm
        have hj : ∀ {t : Int}, t = m → t.toNat = m := fun h => by rw [h]; rfl
        have hw2 := fun hr => with_ok hG hI ⟨N, l⟩ (apP i x 1) (by show N.length ≤ 1000; omega) hok (hsm l) (fun q hq => (hpods q hq).2) (ap_ok (by omega)).2 hr
        have hw2 := hw2 (by show l.length * 248 + 1000 ≤ _; omega)
        have hwl : ((x0 :: r0).map strR).length = (x0 :: r0).length := List.length_map _
        ((conv => whnf); repeat ((first | refine wu8z (by omega) (by omega) ?_ | refine SCall.app (Pure.call1 hwr (by ((repeat (first | exact trivial | refine ⟨by first | exact ce1_free rfl | exact .inl .nil | exact .inl .tok | exact .inl (.rows (by ((repeat (first | exact .nil | refine .cons (by ((repeat (first | exact .nil | refine .cons (by first | exact .refl _ | exact .nil _) ?_)); first | done | fail)) ?_)); first | done | fail))) | exact .inr (.inl ⟨_, _, rfl, rfl, (by ((repeat (first | exact trivial | refine ⟨by first | exact ce_flat rfl | exact .nil | exact .tok | exact .ren rfl (Nat.le_of_ble_eq_true rfl) | exact .rows (by ((repeat (first | exact .nil | refine .cons (by ((repeat (first | exact .nil | refine .cons (by first | exact .refl _ | exact .nil _) ?_)); first | done | fail)) ?_)); first | done | fail)), ?_⟩)); first | done | fail))⟩), ?_⟩)); first | done | fail)) rfl) ?_ | refine SIf.ff hc ?_ | refine SWrap.w64 hb1 hb2 ?_ | refine SEx.of (map_get' (by omega) he) ?_ | refine SEx.of (map_get' (hj hme) hxe) ?_ | refine yf rfl ?_ | refine yt rfl ?_ | refine yo rfl ?_ | refine yc rfl ?_ | refine ys rfl ?_ | refine ye rfl ?_ | refine yn rfl ?_ | refine zw ?_ | refine zdt ?_ | refine zdf ?_ | refine znt ?_ | refine znf ?_ | refine zcd ?_ | refine zci ?_ | refine zc3 ?_) <;> (conv => whnf)))
        refine SLoopZ.by (fun q fr st => ∃ j : Nat, j ≤ l.length ∧ q = l.length - j ∧
            fr = [(99, .i .i64 j), (98, .i .i64 (l.map podR).length), (97, .sl none 16 (l.map podR)), (14, .p (.l 1) 0), (13, .i .i64 i), (12, .i .i64 i), (7, .m (.g 0)), (6, .p (.l 0) 0), (1, .sl none 1 (ps.map intR))] ∧
            st = ⟨⟨1, [(0, .mp none (seenS D))]⟩, ⟨2, [(1, .cs (podR (apP i x 1))), (0, .cs [.sl none 6 (N.map nodeR), .sl none 16 (l.map podR)])]⟩⟩)
          l.length ⟨_, _, ?_, 0, Nat.zero_le _, rfl, rfl, rfl⟩ ?_
        · exact tG [0] [0, 4] (hg := ⟨⟨Nat.le_of_ble_eq_true rfl, rfl, _, rfl, ⟨rfl, ceM_seenS _⟩⟩, trivial⟩)
        rintro q fr st ⟨j, hj9, rfl, rfl, rfl⟩ R' hR'
        (conv => whnf)
        refine SIf.ds (fun hlt => ?_) (fun hge => ?_)
        · have hj' : j < l.length := by omega
          have hq := List.getElem?_eq_getElem hj'
          have hqm := List.getElem_mem hj'
          generalize l[j] = q at hq hqm
          have k1 := same_ok hG ⟨N, l⟩ zoneS q.node x hok
          rw [hst2 q hqm] at k1
          ((conv => whnf); repeat ((first | refine SCall.app (Pure.go k1 rfl) ?_ | refine SEx.of (map_get' (by omega) hq) ?_ | refine yf rfl ?_ | refine yt rfl ?_ | refine yo rfl ?_ | refine yc rfl ?_ | refine ys rfl ?_ | refine ye rfl ?_ | refine yn rfl ?_ | refine zw ?_ | refine zdt ?_ | refine zdf ?_ | refine znt ?_ | refine znf ?_ | refine zcd ?_ | refine zci ?_ | refine zc3 ?_) <;> (conv => whnf)))
          refine hR' (l.length - (j + 1)) _ _ (by omega) ⟨_, _, ?_, j + 1, by omega, rfl, rfl, rfl⟩
          exact tG [0] [0, 1] (hg := ⟨⟨Nat.le_of_ble_eq_true rfl, rfl, _, rfl, ⟨rfl, ceM_seenS _⟩⟩, trivial⟩)
        · ((conv => whnf); repeat ((first | refine SCall.app (Pure.go hw2 rfl) ?_ | refine yf rfl ?_ | refine yt rfl ?_ | refine yo rfl ?_ | refine yc rfl ?_ | refine ys rfl ?_ | refine ye rfl ?_ | refine yn rfl ?_ | refine zw ?_ | refine zdt ?_ | refine zdf ?_ | refine znt ?_ | refine znf ?_ | refine zcd ?_ | refine zci ?_ | refine zc3 ?_) <;> (conv => whnf)))
          refine hR (8 - (i + 1)) _ _ (by omega) ⟨_, _, ?_, i + 1, putL l (apP i x 1), by omega, by omega, rfl, hst1, rfl, rfl⟩
          exact tG [0] [0] (hg := ⟨⟨Nat.le_of_ble_eq_true rfl, rfl, _, rfl, ⟨rfl, ceM_seenS _⟩⟩, trivial⟩)
    · have h8 : ¬ i < ps.length ∨ (i < ps.length ∧ ¬ i < 8) := by omega
      rcases h8 with h1 | ⟨h1, h2⟩
      all_goals ((conv => whnf); repeat ((first | refine yf rfl ?_ | refine yt rfl ?_ | refine yo rfl ?_ | refine yc rfl ?_ | refine ys rfl ?_ | refine ye rfl ?_ | refine yn rfl ?_ | refine zw ?_ | refine zdt ?_ | refine zdf ?_ | refine znt ?_ | refine znf ?_ | refine zcd ?_ | refine zci ?_ | refine zc3 ?_) <;> (conv => whnf)))
end
end Go.Eng
