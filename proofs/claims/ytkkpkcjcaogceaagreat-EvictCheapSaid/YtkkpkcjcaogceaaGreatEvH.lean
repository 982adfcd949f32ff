/-
EvictCheap: of a node full of small ones just as many of the least ones go as have to.
-/
import Derived.Test.YtkkpkcjcaogceaaGreatChP
import Derived.Test.YtkkpkcjcaogceaaGreatEvV
import Derived.Test.YtkkpkcjcaogceaaGreatWiG
import Derived.Test.YtkkpkcjcaogceaaGreatWiB
import Derived.Test.YtkkpkcjcaogceaaGreatAfC
set_option linter.unusedVariables false
set_option linter.unusedSimpArgs false
namespace Go.Eng
open Go
def smallP (c : UInt8) (u pr : Int) : PodD := ⟨[c], u, pr, ⟨1, 0, 0⟩, [], [], [], [], [], [], 0, [], nS, 1⟩
theorem tm0 : TermsOk [] := ⟨Nat.zero_le _, fun _ h => by cases h⟩
theorem tr0' : TermsRoom [] := ⟨Nat.zero_le _, fun _ h => by cases h⟩
theorem small_ok {c : UInt8} {u pr : Int} : (smallP c u pr).fit ∧ PodRoom (smallP c u pr) :=
  ⟨⟨⟨Nat.zero_le _, Nat.zero_le _, Nat.zero_le _, tm0, tm0, tm0⟩, ⟨show in64 1 by decide, show in64 0 by decide, show in64 0 by decide⟩⟩, ⟨Nat.zero_le _, Nat.zero_le _, Nat.zero_le _, tr0', tr0', tr0'⟩⟩
theorem great_ok {need : Nat} (h : need ≤ 11) : (greatP need).fit :=
  ⟨⟨Nat.zero_le _, Nat.zero_le _, Nat.zero_le _, tm0, tm0, tm0⟩, ⟨show -9223372036854775808 ≤ (need : Int) ∧ (need : Int) ≤ 9223372036854775807 by omega, show in64 0 by decide, show in64 0 by decide⟩⟩
/-- So far: pods of names that rise. -/
structure CheapTo (i : Nat) (l : List PodD) : Prop where
  len : l.length = i
  names : l.Pairwise fun a b => a.name ≠ b.name
  pod : ∀ q ∈ l, ∃ (j : Nat) (u pr : Int), j < i ∧ pr ≤ 99 ∧ q = smallP (UInt8.ofNat (97 + j)) u pr
theorem CheapTo.zero : CheapTo 0 [] := ⟨rfl, .nil, fun q h => by cases h⟩
theorem CheapTo.of {i : Nat} {l : List PodD} (h : CheapTo i l) (hi : i ≤ 10) : CheapOf l :=
  ⟨by rw [h.len]; exact hi, h.names, fun q hq => by
    obtain ⟨j, u, pr, _, hpr, rfl⟩ := h.pod q hq
    exact ⟨rfl, rfl, rfl, show pr < 1000 by omega⟩⟩
theorem CheapTo.step {i : Nat} {l : List PodD} (h : CheapTo i l) (hi : i < 10) (u pr : Int) (hpr : pr ≤ 99) : CheapTo (i + 1) (putL l (smallP (UInt8.ofNat (97 + i)) u pr)) := by
  have hne : ∀ q ∈ l, q.name ≠ [UInt8.ofNat (97 + i)] := fun q hq e => by
    obtain ⟨j, u', pr', hj, _, rfl⟩ := h.pod q hq
    have e1 : UInt8.ofNat (97 + j) = UInt8.ofNat (97 + i) := (List.cons.inj e).1
    have e2 := congrArg UInt8.toNat e1
    simp only [UInt8.toNat_ofNat'] at e2
    omega
  have hfr : l.findIdx? (fun q => q.name == (smallP (UInt8.ofNat (97 + i)) u pr).name) = none := by
    rw [List.findIdx?_eq_none_iff]
    intro q hq
    exact beq_eq_false_iff_ne.2 (hne q hq)
  have hput : ∃ A B, l = A ++ B ∧ putL l (smallP (UInt8.ofNat (97 + i)) u pr) = A ++ smallP (UInt8.ofNat (97 + i)) u pr :: B := by
    unfold putL
    rw [hfr]
    exact ⟨l.take (l.takeWhile fun q => Op.bytesLess q.name (smallP (UInt8.ofNat (97 + i)) u pr).name).length, l.drop (l.takeWhile fun q => Op.bytesLess q.name (smallP (UInt8.ofNat (97 + i)) u pr).name).length, (List.take_append_drop _ l).symm, by simp⟩
  obtain ⟨A, B, hl, hp⟩ := hput
  rw [hp]
  subst hl
  have hlen := h.len
  have hnm := List.pairwise_append.1 h.names
  refine ⟨by simp at hlen ⊢; omega, ?_, fun q hq => ?_⟩
  · refine List.pairwise_append.2 ⟨hnm.1, List.pairwise_cons.2 ⟨fun b hb e => hne b (List.mem_append.2 (.inr hb)) e.symm, hnm.2.1⟩, fun a ha b hb => ?_⟩
    cases hb with
    | head => exact hne a (List.mem_append.2 (.inl ha))
    | tail _ hb => exact hnm.2.2 a ha b hb
  · have : q ∈ A ++ B ∨ q = smallP (UInt8.ofNat (97 + i)) u pr := by
      rcases List.mem_append.1 hq with h1 | h1
      · exact .inl (List.mem_append.2 (.inl h1))
      · cases h1 with
        | head => exact .inr rfl
        | tail _ h1 => exact .inl (List.mem_append.2 (.inr h1))
    rcases this with h1 | h1
    · obtain ⟨j, u', pr', hj, hp', e⟩ := h.pod q h1
      exact ⟨j, u', pr', by omega, hp', e⟩
    · exact ⟨i, u, pr, by omega, hpr, h1⟩
theorem tmodN (x : Int) (n : Nat) (hn : 0 < n) (hb : n ≤ 1000) : (-1000 ≤ x.tmod n ∧ x.tmod n ≤ 1000) ∧ (-1000 ≤ x.tmod n + n ∧ x.tmod n + n ≤ 2000) ∧ ∃ m : Nat, m < n ∧ (x.tmod n + n).tmod n = (m : Int) := by
  have h1 : x.tmod n < n := Int.tmod_lt_of_pos x (by omega)
  have h2 := Int.lt_tmod_of_pos x (b := (n : Int)) (by omega)
  refine ⟨by omega, by omega, ((x.tmod n + n).tmod n).toNat, ?_, ?_⟩
  · have h3 : (x.tmod n + n).tmod n < n := Int.tmod_lt_of_pos _ (by omega)
    have h4 : 0 ≤ (x.tmod n + n).tmod n := Int.tmod_nonneg _ (by omega)
    omega
  · have h4 : 0 ≤ (x.tmod n + n).tmod n := Int.tmod_nonneg _ (by omega)
    omega
theorem wu8 {n : Int} {k : Int → Prop} (h1 : 0 ≤ n) (h2 : n ≤ 255) (hk : k n) : SWrap .u8 n k :=
  .of (by have : IntKind.u8.min = 0 := by decide
          omega) (by have : IntKind.u8.max = 255 := by decide
                     omega) hk
section
variable {P : Program} (hG : FnsOk P AF.fns.get)
include hG
set_option maxHeartbeats 16000000 in
set_option maxRecDepth 20000 in
theorem evictCheap_ok (hk : okFn P 5 AF.ec = true) (hI : InsOk P 63) (hb : ACall P 9 [] noG (fun r _ => r = .b true)) (hcmp : CmpOk P) (hS : SortOk P 46 42)
    (ps : List Int) (nd : Int) (hl : LenOk ps) : ACall P 5 [.sl none 1 (ps.map intR), .i .i64 nd] noG (fun r _ => r = .b true) := by
  have hlm : (ps.map intR).length = ps.length := List.length_map _
  unfold LenOk at hl
  refine fn_sz hk rfl ?_
  ((conv => whnf); repeat ((first | refine yf rfl ?_ | refine yt rfl ?_ | refine yo rfl ?_ | refine yc rfl ?_ | refine ys rfl ?_ | refine ye rfl ?_ | refine yn rfl ?_ | refine zw ?_ | refine zdt ?_ | refine zdf ?_ | refine znt ?_ | refine znf ?_ | refine zcd ?_ | refine zci ?_ | refine zc3 ?_) <;> (conv => whnf)))
  refine ⟨hb.frame rfl fun v h' hv => ?_⟩
  subst hv
  refine ⟨rfl, ?_⟩
  ((conv => whnf); repeat ((first | refine yf rfl ?_ | refine yt rfl ?_ | refine yo rfl ?_ | refine yc rfl ?_ | refine ys rfl ?_ | refine ye rfl ?_ | refine yn rfl ?_ | refine zw ?_ | refine zdt ?_ | refine zdf ?_ | refine znt ?_ | refine znf ?_ | refine zcd ?_ | refine zci ?_ | refine zc3 ?_) <;> (conv => whnf)))
  refine SLoopZ.by (fun q fr st => ∃ (i : Nat) (l : List PodD), i ≤ ps.length ∧ i ≤ 10 ∧ q = 10 - i ∧ CheapTo i l ∧
      fr = [(8, .i .i64 i), (7, .p (.l 1) 0), (6, .p (.l 0) 0), (1, .i .i64 nd), (0, .sl none 1 (ps.map intR))] ∧
      st = ⟨noG, ⟨2, [(1, .cs [.sl none 6 [], .sl none 16 (l.map podR)]), (0, .cs [.s nS, .i .i64 i, .i .i64 0, .i .i64 0, .sl none 2 [], .sl none 2 []])]⟩⟩)
    10 ⟨_, _, ?_, 0, [], Nat.zero_le _, Nat.zero_le _, rfl, .zero, rfl, rfl⟩ ?_
  · exact tL [0, 1]
  rintro q fr st ⟨i, l, hi, hi2, rfl, hch, rfl, rfl⟩ R hR
  by_cases hin : i < ps.length ∧ i < 10
  · obtain ⟨hi1, hi3⟩ := hin
    have he := List.getElem?_eq_getElem hi1
    generalize ps[i] = e at he
    obtain ⟨hA0, hB0, pr, hpr, hC0⟩ := tmodN e 100 (by decide) (by decide)
    have hA : -1000 ≤ e.tmod 100 ∧ e.tmod 100 ≤ 1000 := hA0
    have hC : (e.tmod 100 + 100).tmod 100 = (pr : Int) := hC0
    have hpe : (e.tmod 100 + 100).tmod 100 ≤ 99 := by omega
    clear hA0 hB0 hC0
    have hroom : ∀ q ∈ l, q.fit ∧ PodRoom q := fun q hq => by
      obtain ⟨j, u, pr, _, _, rfl⟩ := hch.pod q hq
      exact small_ok
    have hll := hch.len
    have k1 := with_ok hG hI ⟨[], l⟩ (smallP (UInt8.ofNat (97 + i)) (i + 1) ((e.tmod 100 + 100).tmod 100)) (Nat.zero_le _) ⟨Nat.zero_le _, by show l.length ≤ _; omega, (fun _ h => by cases h), fun q hq => (hroom q hq).1, by show l.length * 248 ≤ _; omega⟩ (fun _ h => by cases h) (fun q hq => (hroom q hq).2) small_ok.2 (by show l.length * 248 + 1000 ≤ _; omega)
    have hst := hch.step hi3 (i + 1) _ hpe
    obtain ⟨l2, hl2⟩ : ∃ l2, l2 = putL l (smallP (UInt8.ofNat (97 + i)) (i + 1) ((e.tmod 100 + 100).tmod 100)) := ⟨_, rfl⟩
    have k1 : Pure P 17 [stV ⟨[], l⟩, .agg (podR (smallP (UInt8.ofNat (97 + i)) (i + 1) ((e.tmod 100 + 100).tmod 100)))] (· = stV ⟨[], l2⟩) := by rw [hl2]; exact k1
    rw [← hl2] at hst
    clear hl2
    ((conv => whnf); repeat ((first | refine wu8 (by omega) (by omega) ?_ | refine SCall.app (Pure.call1 k1 (by ((repeat (first | exact trivial | refine ⟨by first | exact ce1_free rfl | exact .inl .nil | exact .inl .tok | exact .inl (.rows (by ((repeat (first | exact .nil | refine .cons (by ((repeat (first | exact .nil | refine .cons (by first | exact .refl _ | exact .nil _) ?_)); first | done | fail)) ?_)); first | done | fail))) | exact .inr (.inl ⟨_, _, rfl, rfl, (by ((repeat (first | exact trivial | refine ⟨by first | exact ce_flat rfl | exact .nil | exact .tok | exact .ren rfl (Nat.le_of_ble_eq_true rfl) | exact .rows (by ((repeat (first | exact .nil | refine .cons (by ((repeat (first | exact .nil | refine .cons (by first | exact .refl _ | exact .nil _) ?_)); first | done | fail)) ?_)); first | done | fail)), ?_⟩)); first | done | fail))⟩), ?_⟩)); first | done | fail)) rfl) ?_ | refine SEx.of (map_get' (by omega) he) ?_ | refine yf rfl ?_ | refine yt rfl ?_ | refine yo rfl ?_ | refine yc rfl ?_ | refine ys rfl ?_ | refine ye rfl ?_ | refine yn rfl ?_ | refine zw ?_ | refine zdt ?_ | refine zdf ?_ | refine znt ?_ | refine znf ?_ | refine zcd ?_ | refine zci ?_ | refine zc3 ?_) <;> (conv => whnf)))
    refine hR (10 - (i + 1)) _ _ (by omega) ⟨_, _, ?_, i + 1, l2, by omega, by omega, rfl, hst, rfl, rfl⟩
    exact tL [0, 1]
  · clear hR
    obtain ⟨hA0, hB0, m, hm, hC0⟩ := tmodN nd 12 (by decide) (by decide)
    have hA : -1000 ≤ nd.tmod 12 ∧ nd.tmod 12 ≤ 1000 := hA0
    have hC : (nd.tmod 12 + 12).tmod 12 = (m : Int) := hC0
    clear hA0 hB0 hC0
    have hcl := hch.len
    have hco := hch.of hi2
    subst hcl
    have hroom : ∀ q ∈ l, q.fit ∧ PodRoom q := fun q hq => by
      obtain ⟨j, u, pr, _, _, rfl⟩ := hch.pod q hq
      exact small_ok
    have hnf : (fullN l.length).ok := ⟨Nat.zero_le _, Nat.zero_le _⟩
    have hsok : (⟨[fullN l.length], l⟩ : StD).ok := ⟨show 1 ≤ _ by decide, by show l.length ≤ _; omega, (fun n hn => by rw [List.mem_singleton.1 hn]; exact hnf), fun q hq => (hroom q hq).1, by show l.length * 248 ≤ _; omega⟩
    have hsm : Small ⟨[fullN l.length], l⟩ := fun n hn => by rw [List.mem_singleton.1 hn]; exact ⟨Nat.zero_le _, Nat.zero_le _⟩
    have hv := vict_ok hG hcmp hS ⟨[fullN l.length], l⟩ (greatP m) nS hsok (great_ok (by omega)) hsm (show 1 ≤ 1000 by decide) (by show l.length ≤ 19; omega) (fun q hq => (hroom q hq).2)
    obtain ⟨c1, c2⟩ := cheap_vict hco (need := m) (by omega)
    have h12 : ¬ l.length < ps.length ∨ (l.length < ps.length ∧ ¬ l.length < 10) := by omega
    by_cases hnl : l.length < m
    · rw [c1 hnl] at hv
      have hmf : (!(false == decide ((m : Int) ≤ (l.length : Int)) && true)) = false := by rw [decide_eq_false (by omega)]; rfl
      rcases h12 with h1 | ⟨h1, h2⟩
      all_goals ((conv => whnf); repeat ((first | refine yf rfl ?_ | refine yt rfl ?_ | refine yo rfl ?_ | refine yc rfl ?_ | refine ys rfl ?_ | refine ye rfl ?_ | refine yn rfl ?_ | refine zw ?_ | refine zdt ?_ | refine zdf ?_ | refine znt ?_ | refine znf ?_ | refine zcd ?_ | refine zci ?_ | refine zc3 ?_ | refine SLoopZ.un rfl ?_) <;> (conv => whnf)))
      all_goals rw [hC]
      all_goals ((conv => whnf); repeat ((first | refine SCall.app (Pure.call1 hv (by ((repeat (first | exact trivial | refine ⟨by first | exact ce1_free rfl | exact .inl .nil | exact .inl .tok | exact .inl (.rows (by ((repeat (first | exact .nil | refine .cons (by ((repeat (first | exact .nil | refine .cons (by first | exact .refl _ | exact .nil _) ?_)); first | done | fail)) ?_)); first | done | fail))) | exact .inr (.inl ⟨_, _, rfl, rfl, (by ((repeat (first | exact trivial | refine ⟨by first | exact ce_flat rfl | exact .nil | exact .tok | exact .ren rfl (Nat.le_of_ble_eq_true rfl) | exact .rows (by ((repeat (first | exact .nil | refine .cons (by ((repeat (first | exact .nil | refine .cons (by first | exact .refl _ | exact .nil _) ?_)); first | done | fail)) ?_)); first | done | fail)), ?_⟩)); first | done | fail))⟩), ?_⟩)); first | done | fail)) rfl) ?_ | refine SIf.ff hmf ?_ | refine yf rfl ?_ | refine yt rfl ?_ | refine yo rfl ?_ | refine yc rfl ?_ | refine ys rfl ?_ | refine ye rfl ?_ | refine yn rfl ?_ | refine zw ?_ | refine zdt ?_ | refine zdf ?_ | refine znt ?_ | refine znf ?_ | refine zcd ?_ | refine zci ?_ | refine zc3 ?_ | refine SLoopZ.un rfl ?_) <;> (conv => whnf)))
    · obtain ⟨vs, hvd, hvl, hsub, hle⟩ := c2 (by omega)
      rw [hvd] at hv
      have hmt : (!(true == decide ((m : Int) ≤ (l.length : Int)) && true)) = false := by rw [decide_eq_true (by omega)]; rfl
      have hlm2 : (vs.map strR).length = vs.length := List.length_map _
      have hlm3 : (l.map podR).length = l.length := List.length_map _
      have hlen : (!decide (((vs.map strR).length : Int) = (m : Int))) = false := by rw [hlm2, hvl, decide_eq_true rfl]; rfl
      have hgp : ∀ x ∈ l, Pure P 14 [stV ⟨[fullN l.length], l⟩, .s x.name] (· = podO (some x)) := fun x hx => by
        have := statePod_ok hG ⟨[fullN l.length], l⟩ x.name (by show l.length ≤ _; omega) (fun q hq => (hroom q hq).2)
        rw [pod_found (l := (⟨[fullN l.length], l⟩ : StD).pods) hco.names hx] at this
        exact this
      rcases h12 with h1 | ⟨h1, h2⟩
      all_goals ((conv => whnf); repeat ((first | refine yf rfl ?_ | refine yt rfl ?_ | refine yo rfl ?_ | refine yc rfl ?_ | refine ys rfl ?_ | refine ye rfl ?_ | refine yn rfl ?_ | refine zw ?_ | refine zdt ?_ | refine zdf ?_ | refine znt ?_ | refine znf ?_ | refine zcd ?_ | refine zci ?_ | refine zc3 ?_) <;> (conv => whnf)))
      all_goals rw [hC]
      all_goals ((conv => whnf); repeat ((first | refine SCall.app (Pure.call1 hv (by ((repeat (first | exact trivial | refine ⟨by first | exact ce1_free rfl | exact .inl .nil | exact .inl .tok | exact .inl (.rows (by ((repeat (first | exact .nil | refine .cons (by ((repeat (first | exact .nil | refine .cons (by first | exact .refl _ | exact .nil _) ?_)); first | done | fail)) ?_)); first | done | fail))) | exact .inr (.inl ⟨_, _, rfl, rfl, (by ((repeat (first | exact trivial | refine ⟨by first | exact ce_flat rfl | exact .nil | exact .tok | exact .ren rfl (Nat.le_of_ble_eq_true rfl) | exact .rows (by ((repeat (first | exact .nil | refine .cons (by ((repeat (first | exact .nil | refine .cons (by first | exact .refl _ | exact .nil _) ?_)); first | done | fail)) ?_)); first | done | fail)), ?_⟩)); first | done | fail))⟩), ?_⟩)); first | done | fail)) rfl) ?_ | refine SIf.ff hmt ?_ | refine SIf.ff hlen ?_ | refine yf rfl ?_ | refine yt rfl ?_ | refine yo rfl ?_ | refine yc rfl ?_ | refine ys rfl ?_ | refine ye rfl ?_ | refine yn rfl ?_ | refine zw ?_ | refine zdt ?_ | refine zdf ?_ | refine znt ?_ | refine znf ?_ | refine zcd ?_ | refine zci ?_ | refine zc3 ?_) <;> (conv => whnf)))
      all_goals (
        refine SLoopZ.by (fun q fr st => ∃ a : Nat, a ≤ vs.length ∧ q = vs.length - a ∧
            fr = [(94, .i .i64 a), (93, .i .i64 (vs.map strR).length), (92, .sl none 1 (vs.map strR)), (10, .sl none 1 (vs.map strR)), (7, .p (.l 0) 0)] ∧
            st = ⟨noG, ⟨1, [(0, .cs [.sl none 6 ([fullN l.length].map nodeR), .sl none 16 (l.map podR)])]⟩⟩)
          vs.length ⟨_, _, ?_, 0, Nat.zero_le _, rfl, rfl, rfl⟩ ?_
        · exact tL [1]
        rintro q fr st ⟨a, ha, rfl, rfl, rfl⟩ R hR
        (conv => whnf)
        refine SIf.ds (fun hlt => ?_) (fun hge => ?_)
        · have ha' : a < vs.length := by omega
          have he := List.getElem?_eq_getElem ha'
          have hm1 := hsub _ (List.getElem_mem ha')
          have hm2 := List.getElem_mem ha'
          generalize vs[a] = v at he hm1 hm2
          obtain ⟨x, hx, rfl⟩ := List.mem_map.1 hm1
          have k2 := hgp x hx
          ((conv => whnf); repeat ((first | refine SCall.app (Pure.go k2 rfl) ?_ | refine SEx.of (map_get' (by omega) he) ?_ | refine yf rfl ?_ | refine yt rfl ?_ | refine yo rfl ?_ | refine yc rfl ?_ | refine ys rfl ?_ | refine ye rfl ?_ | refine yn rfl ?_ | refine zw ?_ | refine zdt ?_ | refine zdf ?_ | refine znt ?_ | refine znf ?_ | refine zcd ?_ | refine zci ?_ | refine zc3 ?_) <;> (conv => whnf)))
          refine SLoopZ.by (fun q fr st => ∃ b : Nat, b ≤ l.length ∧ q = l.length - b ∧
              fr = [(107, .i .i64 b), (106, .i .i64 (l.map podR).length), (105, .sl none 16 (l.map podR)), (14, .p (.l 1) 0), (94, .i .i64 a), (93, .i .i64 (vs.map strR).length), (92, .sl none 1 (vs.map strR)), (10, .sl none 1 (vs.map strR)), (7, .p (.l 0) 0)] ∧
              st = ⟨noG, ⟨2, [(1, .cs (podR x)), (0, .cs [.sl none 6 ([fullN l.length].map nodeR), .sl none 16 (l.map podR)])]⟩⟩)
            l.length ⟨_, _, ?_, 0, Nat.zero_le _, rfl, rfl, rfl⟩ ?_
          · exact tL [0, 1]
          rintro q fr st ⟨b, hb2, rfl, rfl, rfl⟩ R2 hR2
          (conv => whnf)
          refine SIf.ds (fun hlt2 => ?_) (fun hge2 => ?_)
          · have hb' : b < l.length := by omega
            have hq := List.getElem?_eq_getElem hb'
            have hqm := List.getElem_mem hb'
            generalize l[b] = z at hq hqm
            ((conv => whnf); repeat ((first | refine SEx.of (map_get' (by omega) hq) ?_ | refine yf rfl ?_ | refine yt rfl ?_ | refine yo rfl ?_ | refine yc rfl ?_ | refine ys rfl ?_ | refine ye rfl ?_ | refine yn rfl ?_ | refine zw ?_ | refine zdt ?_ | refine zdf ?_ | refine znt ?_ | refine znf ?_ | refine zcd ?_ | refine zci ?_ | refine zc3 ?_) <;> (conv => whnf)))
            refine SLoopZ.by (fun q fr st => ∃ (c : Nat) (y : Bool), c ≤ vs.length ∧ q = vs.length - c ∧ (y = true → ∀ u ∈ vs.take c, u ≠ z.name) ∧
                fr = [(113, .i .i64 c), (112, .i .i64 (vs.map strR).length), (111, .sl none 1 (vs.map strR)), (18, .b y), (17, .p (.l 2) 0), (107, .i .i64 b), (106, .i .i64 (l.map podR).length), (105, .sl none 16 (l.map podR)), (14, .p (.l 1) 0), (94, .i .i64 a), (93, .i .i64 (vs.map strR).length), (92, .sl none 1 (vs.map strR)), (10, .sl none 1 (vs.map strR)), (7, .p (.l 0) 0)] ∧
                st = ⟨noG, ⟨3, [(2, .cs (podR z)), (1, .cs (podR x)), (0, .cs [.sl none 6 ([fullN l.length].map nodeR), .sl none 16 (l.map podR)])]⟩⟩)
              vs.length ⟨_, _, ?_, 0, true, Nat.zero_le _, rfl, (fun _ u hu => by cases hu), rfl, rfl⟩ ?_
            · exact tL [0, 1, 2]
            rintro q fr st ⟨c, y, hc2, rfl, hy, rfl, rfl⟩ R3 hR3
            (conv => whnf)
            refine SIf.ds (fun hlt3 => ?_) (fun hge3 => ?_)
            · have hc' : c < vs.length := by omega
              have hu := List.getElem?_eq_getElem hc'
              generalize vs[c] = u at hu
              cases y
              · ((conv => whnf); repeat ((first | refine SEx.of (map_get' (by omega) hu) ?_ | refine yf rfl ?_ | refine yt rfl ?_ | refine yo rfl ?_ | refine yc rfl ?_ | refine ys rfl ?_ | refine ye rfl ?_ | refine yn rfl ?_ | refine zw ?_ | refine zdt ?_ | refine zdf ?_ | refine znt ?_ | refine znf ?_ | refine zcd ?_ | refine zci ?_ | refine zc3 ?_) <;> (conv => whnf)))
                refine hR3 (vs.length - (c + 1)) _ _ (by omega) ⟨_, _, ?_, c + 1, false, by omega, rfl, (fun h => by cases h), rfl, rfl⟩
                exact tL [0, 1, 2]
              · ((conv => whnf); repeat ((first | refine SEx.of (map_get' (by omega) hu) ?_ | refine yf rfl ?_ | refine yt rfl ?_ | refine yo rfl ?_ | refine yc rfl ?_ | refine ys rfl ?_ | refine ye rfl ?_ | refine yn rfl ?_ | refine zw ?_ | refine zdt ?_ | refine zdf ?_ | refine znt ?_ | refine znf ?_ | refine zcd ?_ | refine zci ?_ | refine zc3 ?_) <;> (conv => whnf)))
                refine hR3 (vs.length - (c + 1)) _ _ (by omega) ⟨_, _, ?_, c + 1, !(u == z.name), by omega, rfl, (fun h u' hu' => by
                  rw [take_succ' hu] at hu'
                  rcases List.mem_append.1 hu' with h1 | h1
                  · exact hy rfl u' h1
                  · rw [List.mem_singleton.1 h1]
                    simpa using h), rfl, rfl⟩
                exact tL [0, 1, 2]
            · cases y
              · ((conv => whnf); repeat ((first | refine yf rfl ?_ | refine yt rfl ?_ | refine yo rfl ?_ | refine yc rfl ?_ | refine ys rfl ?_ | refine ye rfl ?_ | refine yn rfl ?_ | refine zw ?_ | refine zdt ?_ | refine zdf ?_ | refine znt ?_ | refine znf ?_ | refine zcd ?_ | refine zci ?_ | refine zc3 ?_) <;> (conv => whnf)))
                refine hR2 (l.length - (b + 1)) _ _ (by omega) ⟨_, _, ?_, b + 1, by omega, rfl, rfl, rfl⟩
                exact tL [0, 1]
              · have hst : z.name ∉ vs := fun h => hy rfl z.name (by rw [List.take_of_length_le (by omega)]; exact h) rfl
                have hpr := hle x hx hm2 z hqm hst
                ((conv => whnf); repeat ((first | refine yf rfl ?_ | refine yt rfl ?_ | refine yo rfl ?_ | refine yc rfl ?_ | refine ys rfl ?_ | refine ye rfl ?_ | refine yn rfl ?_ | refine zw ?_ | refine zdt ?_ | refine zdf ?_ | refine znt ?_ | refine znf ?_ | refine zcd ?_ | refine zci ?_ | refine zc3 ?_) <;> (conv => whnf)))
                refine hR2 (l.length - (b + 1)) _ _ (by omega) ⟨_, _, ?_, b + 1, by omega, rfl, rfl, rfl⟩
                exact tL [0, 1]
          · ((conv => whnf); repeat ((first | refine yf rfl ?_ | refine yt rfl ?_ | refine yo rfl ?_ | refine yc rfl ?_ | refine ys rfl ?_ | refine ye rfl ?_ | refine yn rfl ?_ | refine zw ?_ | refine zdt ?_ | refine zdf ?_ | refine znt ?_ | refine znf ?_ | refine zcd ?_ | refine zci ?_ | refine zc3 ?_) <;> (conv => whnf)))
            refine hR (vs.length - (a + 1)) _ _ (by omega) ⟨_, _, ?_, a + 1, by omega, rfl, rfl, rfl⟩
            exact tL [0]
        · ((conv => whnf); repeat ((first | refine yf rfl ?_ | refine yt rfl ?_ | refine yo rfl ?_ | refine yc rfl ?_ | refine ys rfl ?_ | refine ye rfl ?_ | refine yn rfl ?_ | refine zw ?_ | refine zdt ?_ | refine zdf ?_ | refine znt ?_ | refine znf ?_ | refine zcd ?_ | refine zci ?_ | refine zc3 ?_) <;> (conv => whnf))))
end
end Go.Eng
