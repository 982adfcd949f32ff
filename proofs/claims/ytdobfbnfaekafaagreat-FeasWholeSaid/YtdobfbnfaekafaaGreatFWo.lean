/-
FeasWhole: a state is whole just if nobody has too much, nobody's port twice, nobody is nowhere.
-/
import Derived.Test.YtdobfbnfaekafaaGreatLaw0
import Derived.Test.YtdobfbnfaekafaaGreatWiA
import Derived.Test.YtdobfbnfaekafaaGreatFWp
import Derived.Test.YtdobfbnfaekafaaGreatFitW3
import Derived.Test.YtdobfbnfaekafaaGreatAfW
set_option linter.unusedVariables false
set_option linter.unusedSimpArgs false
namespace Go.Eng
open Go
abbrev rawE : List V := [.s exS, .i .i64 5, .i .i64 5, .i .i64 5, .nils, .nils]
theorem ndL_refl' : ∀ l : List V, NdL l l
  | [] => .nil
  | x :: r => .cons (.refl x) (ndL_refl' r)
theorem nd_ex : ∀ N : List NodeD, NdLL (N.map nodeR ++ [rawE]) ((N ++ [exN]).map nodeR)
  | [] => .cons (.cons (.refl _) (.cons (.refl _) (.cons (.refl _) (.cons (.refl _) (.cons (.nil 2) (.cons (.nil 2) .nil)))))) .nil
  | n :: r => .cons (ndL_refl' _) (nd_ex r)
theorem tmod4 (x : Int) : (-3 ≤ x.tmod 4 ∧ x.tmod 4 ≤ 3) ∧ ((x.tmod 4 + 4).tmod 4 = 0 ∨ (x.tmod 4 + 4).tmod 4 = 1 ∨ (x.tmod 4 + 4).tmod 4 = 2 ∨ (x.tmod 4 + 4).tmod 4 = 3) := by
  have h1 : x.tmod 4 < 4 := Int.tmod_lt_of_pos x (by decide)
  have h2 : -4 < x.tmod 4 := by
    have := Int.lt_tmod_of_pos x (b := 4) (by decide)
    omega
  generalize x.tmod 4 = t at *
  have : t = -3 ∨ t = -2 ∨ t = -1 ∨ t = 0 ∨ t = 1 ∨ t = 2 ∨ t = 3 := by omega
  rcases this with rfl | rfl | rfl | rfl | rfl | rfl | rfl <;> decide
section
variable {P : Program} (hG : FnsOk P AF.fns.get)
include hG
set_option maxHeartbeats 16000000 in
set_option maxRecDepth 20000 in
theorem feasWhole_ok (hk : okFn P 4 AF.fw = true) (hI : InsOk P 38) (hb : ACall P 5 [] noG (fun r _ => r = .b true)) (s : StD) (which : Int) (hs : s.arg) :
    ACall P 4 [stV s, .i .i64 which] noG (fun r _ => r = .b true) := by
  refine fn_sz hk rfl ?_
  ((conv => whnf); repeat ((first | refine yf rfl ?_ | refine yt rfl ?_ | refine yo rfl ?_ | refine yc rfl ?_ | refine ys rfl ?_ | refine ye rfl ?_ | refine yn rfl ?_ | refine zw ?_ | refine zdt ?_ | refine zdf ?_ | refine znt ?_ | refine znf ?_ | refine zcd ?_ | refine zci ?_ | refine zc3 ?_) <;> (conv => whnf)))
  refine ⟨hb.frame rfl fun v h' hv => ?_⟩
  subst hv
  refine ⟨rfl, ?_⟩
  ((conv => whnf); repeat ((first | refine yf rfl ?_ | refine yt rfl ?_ | refine yo rfl ?_ | refine yc rfl ?_ | refine ys rfl ?_ | refine ye rfl ?_ | refine yn rfl ?_ | refine zw ?_ | refine zdt ?_ | refine zdf ?_ | refine znt ?_ | refine znf ?_ | refine zcd ?_ | refine zci ?_ | refine zc3 ?_) <;> (conv => whnf)))
  refine SCall.mk (Pure.state (hs.cut hG) rfl fun w hw => ?_)
  have hwo := hw.ok hs
  have hsm : Small w := fun n hn => by
    have := hw.nodes.sub n hn
    omega
  have h6 : w.nodes.length ≤ 6 := hw.nodes.len
  have hcap : ∀ n ∈ w.nodes, ResMay n.cap := fun n hn => (hw.nodes.sub n hn).2.2.2.2.2
  have hpl : w.pods.length ≤ 16 := hw.plen
  have hlm : (w.pods.map podR).length = w.pods.length := List.length_map _
  obtain ⟨F, hF⟩ : ∃ F : PodD → PodD, F = fun p => { p with node := [], term := 0 } := ⟨_, rfl⟩
  ((conv => whnf); repeat ((first | refine yf rfl ?_ | refine yt rfl ?_ | refine yo rfl ?_ | refine yc rfl ?_ | refine ys rfl ?_ | refine ye rfl ?_ | refine yn rfl ?_ | refine zw ?_ | refine zdt ?_ | refine zdf ?_ | refine znt ?_ | refine znf ?_ | refine zcd ?_ | refine zci ?_ | refine zc3 ?_) <;> (conv => whnf)))
  refine SLoopZ.by (fun q fr st => ∃ (i : Nat) (b : Bool) (es : List PodD), i ≤ w.pods.length ∧ q = w.pods.length - i ∧ es = (w.pods.take i).map F ∧ (b = false → es = []) ∧
      fr = [(25, .i .i64 i), (24, .i .i64 (w.pods.map podR).length), (23, .sl none 16 (w.pods.map podR)), (6, accV b 1 16 (es.map podR)), (2, .p (.l 0) 0), (1, .i .i64 which)] ∧
      st = accS b 1 [(0, .cs [.sl none 6 (w.nodes.map nodeR), .sl none 16 (w.pods.map podR)])])
    w.pods.length ⟨_, _, ?_, 0, false, [], Nat.zero_le _, rfl, rfl, fun _ => rfl, rfl, rfl⟩ ?_
  · exact tL [0]
  rintro q fr st ⟨i, b, es, hi, rfl, hes, hb, rfl, rfl⟩ R hR
  have hesl : es.length ≤ i := by
    rw [hes, List.length_map]
    exact List.length_take_le _ _
  (conv => whnf)
  refine SIf.ds (fun hlt => ?_) (fun hge => ?_)
  · have hi' : i < w.pods.length := by omega
    have he := List.getElem?_eq_getElem hi'
    generalize w.pods[i] = e at he
    have h1 : es ++ [F e] = (w.pods.take (i + 1)).map F := by rw [take_succ' he, List.map_append, ← hes]; rfl
    have hint : es.map podR ++ [podR { e with node := [], term := 0 }] = (es ++ [F e]).map podR := by rw [hF, List.map_append]; rfl
    cases b
    · obtain rfl : es = [] := hb rfl
      ((conv => whnf); repeat ((first | refine SEx.of (map_get' (by omega) he) ?_ | refine yf rfl ?_ | refine yt rfl ?_ | refine yo rfl ?_ | refine yc rfl ?_ | refine ys rfl ?_ | refine ye rfl ?_ | refine yn rfl ?_ | refine zw ?_ | refine zdt ?_ | refine zdf ?_ | refine znt ?_ | refine znf ?_ | refine zcd ?_ | refine zci ?_ | refine zc3 ?_) <;> (conv => whnf)))
      refine hR (w.pods.length - (i + 1)) _ _ (by omega) ⟨_, _, ?_, i + 1, true, [] ++ [F e], by omega, rfl, h1, (fun h => by cases h), rfl, rfl⟩
      rw [hF]
      exact tL [0, 2]
    · ((conv => whnf); repeat ((first | refine SEx.of (congrArg some hint) ?_ | refine SChk.mk (by simp [roomOk]; omega) ?_ | refine SIf.df (by simp only [List.length_cons, List.length_nil, List.length_map]; omega) ?_ | refine SEx.of (map_get' (by omega) he) ?_ | refine yf rfl ?_ | refine yt rfl ?_ | refine yo rfl ?_ | refine yc rfl ?_ | refine ys rfl ?_ | refine ye rfl ?_ | refine yn rfl ?_ | refine zw ?_ | refine zdt ?_ | refine zdf ?_ | refine znt ?_ | refine znf ?_ | refine zcd ?_ | refine zci ?_ | refine zc3 ?_) <;> (conv => whnf)))
      refine hR (w.pods.length - (i + 1)) _ _ (by omega) ⟨_, _, ?_, i + 1, true, es ++ [F e], by omega, rfl, h1, (fun h => by cases h), rfl, rfl⟩
      exact tL [0, 3]
  clear hR
  have hall : es = w.pods.map F := by rw [hes, List.take_of_length_le (by omega)]
  obtain ⟨l, hl⟩ : ∃ l, l = es := ⟨_, rfl⟩
  rw [← hl] at hb hesl hall ⊢
  clear hes hl
  have hll : l.length ≤ 16 := by rw [hall, List.length_map]; exact hpl
  have hlf : ∀ q ∈ l, q.fit ∧ PodRoom q ∧ q.node = [] ∧ ResMay q.req := fun q hq => by
    rw [hall] at hq
    obtain ⟨p, hp, rfl⟩ := List.mem_map.1 hq
    have h1 := hwo.pod p hp
    have h2 := hw.pmay p hp
    rw [hF]
    exact ⟨⟨⟨h1.ports, h1.labels, h1.tols, h1.sel, h1.anti, h1.even⟩, h1.req⟩, PodMay.room ⟨h2.ports, h2.labels, h2.sel, h2.tols, h2.anti, h2.even, h2.req⟩, rfl, h2.req⟩
  obtain ⟨N, hN⟩ : ∃ N, N = w.nodes := ⟨_, rfl⟩
  have hno := hwo.nodes
  have hnd := hwo.node
  have hsm' : ∀ l, Small ⟨w.nodes, l⟩ := fun l => hsm
  rw [← hN] at h6 hcap hno hnd hsm' ⊢
  clear hsm hall hF hN
  have hok : (⟨N, l⟩ : StD).ok := ⟨hno, by show l.length ≤ _; omega, hnd, fun q hq => (hlf q hq).1, by show l.length * 248 ≤ _; omega⟩
  have hroom : ∀ q ∈ l, PodRoom q := fun q hq => (hlf q hq).2.1
  have hwh : wholeD ⟨N, l⟩ = true := by
    rw [wholeD_eq, Bool.and_eq_true, List.all_eq_true, List.all_eq_true]
    refine ⟨fun n hn => ?_, fun q hq => by rw [(hlf q hq).2.2.1]; rfl⟩
    have hon : onD ⟨N, l⟩ n.name = [] := by
      rw [onD_filter, List.filter_eq_nil_iff]
      intro q hq
      rw [(hlf q hq).2.2.1]
      cases n.name <;> simp
    unfold okN
    rw [used_may (fun q hq => (hlf q hq).2.2.2) (by omega), hon]
    have h1 := hcap n hn
    have ha := h1.a; have hb := h1.b; have hc := h1.c
    show (fitsD ⟨0, 0, 0⟩ n.cap && noClash []) = true
    simp only [fitsD, Bool.and_eq_true, decide_eq_true_eq]
    exact ⟨by omega, rfl⟩
  have hwa := whole_all hG ⟨N, l⟩ hok (hsm' l) hroom
  rw [hwh] at hwa
  have g1 := getnode_ok hG ⟨N, l⟩ exS hno (hsm' l)
  have g2 := getnode_ok hG ⟨N, l⟩ nwS hno (hsm' l)
  have cut : ∀ x : Str, nodeO ((⟨N, l⟩ : StD).nodes.find? fun p => p.name == x) = nodeO (N.find? fun p => p.name == x) := fun x => rfl
  rw [cut] at g1 g2
  cases hf1 : N.find? (fun p => p.name == exS) <;> cases hf2 : N.find? (fun p => p.name == nwS)
  all_goals rw [hf1] at g1
  all_goals rw [hf2] at g2
  rotate_left 1
  iterate 3 (focus (
    cases b
    all_goals first | (have hl0 : l = [] := hb rfl; clear hwh hb; subst hl0) | skip
    all_goals ((conv => whnf); repeat ((first | refine SCall.app (Pure.call1 hwa (by ((repeat (first | exact trivial | refine ⟨by first | exact ce1_free rfl | exact .inl .nil | exact .inl .tok | exact .inl (.rows (by ((repeat (first | exact .nil | refine .cons (by ((repeat (first | exact .nil | refine .cons (by first | exact .refl _ | exact .nil _) ?_)); first | done | fail)) ?_)); first | done | fail))) | exact .inr (.inl ⟨_, _, rfl, rfl, (by ((repeat (first | exact trivial | refine ⟨by first | exact ce_flat rfl | exact .nil | exact .tok | exact .ren rfl (Nat.le_of_ble_eq_true rfl) | exact .rows (by ((repeat (first | exact .nil | refine .cons (by ((repeat (first | exact .nil | refine .cons (by first | exact .refl _ | exact .nil _) ?_)); first | done | fail)) ?_)); first | done | fail)), ?_⟩)); first | done | fail))⟩), ?_⟩)); first | done | fail)) rfl) ?_ | refine SCall.app (Pure.call1 g1 (by ((repeat (first | exact trivial | refine ⟨by first | exact ce1_free rfl | exact .inl .nil | exact .inl .tok | exact .inl (.rows (by ((repeat (first | exact .nil | refine .cons (by ((repeat (first | exact .nil | refine .cons (by first | exact .refl _ | exact .nil _) ?_)); first | done | fail)) ?_)); first | done | fail))) | exact .inr (.inl ⟨_, _, rfl, rfl, (by ((repeat (first | exact trivial | refine ⟨by first | exact ce_flat rfl | exact .nil | exact .tok | exact .ren rfl (Nat.le_of_ble_eq_true rfl) | exact .rows (by ((repeat (first | exact .nil | refine .cons (by ((repeat (first | exact .nil | refine .cons (by first | exact .refl _ | exact .nil _) ?_)); first | done | fail)) ?_)); first | done | fail)), ?_⟩)); first | done | fail))⟩), ?_⟩)); first | done | fail)) rfl) ?_ | refine SCall.app (Pure.call1 g2 (by ((repeat (first | exact trivial | refine ⟨by first | exact ce1_free rfl | exact .inl .nil | exact .inl .tok | exact .inl (.rows (by ((repeat (first | exact .nil | refine .cons (by ((repeat (first | exact .nil | refine .cons (by first | exact .refl _ | exact .nil _) ?_)); first | done | fail)) ?_)); first | done | fail))) | exact .inr (.inl ⟨_, _, rfl, rfl, (by ((repeat (first | exact trivial | refine ⟨by first | exact ce_flat rfl | exact .nil | exact .tok | exact .ren rfl (Nat.le_of_ble_eq_true rfl) | exact .rows (by ((repeat (first | exact .nil | refine .cons (by ((repeat (first | exact .nil | refine .cons (by first | exact .refl _ | exact .nil _) ?_)); first | done | fail)) ?_)); first | done | fail)), ?_⟩)); first | done | fail))⟩), ?_⟩)); first | done | fail)) rfl) ?_ | refine yf rfl ?_ | refine yt rfl ?_ | refine yo rfl ?_ | refine yc rfl ?_ | refine ys rfl ?_ | refine ye rfl ?_ | refine yn rfl ?_ | refine zw ?_ | refine zdt ?_ | refine zdf ?_ | refine znt ?_ | refine znf ?_ | refine zcd ?_ | refine zci ?_ | refine zc3 ?_ | refine SLoopZ.un rfl ?_) <;> (conv => whnf)))))
  · clear hwh
    have hN : ∀ n ∈ N, ResMay n.cap ∧ n.name ≠ exS ∧ n.name ≠ nwS := fun n hn => ⟨hcap n hn, by simpa using List.find?_eq_none.1 hf1 n hn, by simpa using List.find?_eq_none.1 hf2 n hn⟩
    have hno2 : LenOk (N ++ [exN]) := by unfold LenOk; simp; omega
    have hnd2 : ∀ n ∈ N ++ [exN], n.ok := fun n hn => by
      rcases List.mem_append.1 hn with h | h
      · exact hnd n h
      · rw [List.mem_singleton.1 h]; exact ⟨by unfold LenOk; decide, by unfold LenOk; decide⟩
    have hsm2 : ∀ l, Small ⟨N ++ [exN], l⟩ := fun l n hn => by
      rcases List.mem_append.1 hn with h | h
      · exact hsm' l n h
      · rw [List.mem_singleton.1 h]; decide
    have hnl : (N ++ [exN]).length ≤ 1000 := by simp; omega
    have tr0 : TermsRoom [] := ⟨Nat.zero_le _, fun _ h => by cases h⟩
    have z0 : ∀ {α : Type}, LenOk ([] : List α) := fun {α} => Nat.zero_le _
    have z1 : ∀ {x : Int}, LenOk [x] := fun {x} => show 1 ≤ 9223372036854775807 by decide
    have hpx : ∀ (name : Str) (uid d port : Int) (node : Str), (d = 2 ∨ d = 3) → (exP name uid d port node).fit ∧ PodRoom (exP name uid d port node) := fun name uid d port node hd => by
      refine ⟨⟨⟨z1, z0, z0, ⟨z0, fun _ h => by cases h⟩, ⟨z0, fun _ h => by cases h⟩, ⟨z0, fun _ h => by cases h⟩⟩, ?_⟩, ?_⟩
      · exact ⟨show -9223372036854775808 ≤ d ∧ d ≤ 9223372036854775807 by omega, show in64 0 by decide, show in64 0 by decide⟩
      · exact ⟨show 1 * 8 ≤ _ by decide, Nat.zero_le _, Nat.zero_le _, tr0, tr0, tr0⟩
    have k1 := with_ok hG hI ⟨N ++ [exN], l⟩ (exP [48, 97] 1 3 7 exS) hnl ⟨hno2, by show l.length ≤ _; omega, hnd2, fun q hq => (hlf q hq).1, by show l.length * 248 ≤ _; omega⟩ (hsm2 _) hroom (hpx _ _ _ _ _ (.inr rfl)).2 (by show l.length * 248 + 1000 ≤ _; omega)
    obtain ⟨l2, hl2⟩ : ∃ l2, l2 = putL l (exP [48, 97] 1 3 7 exS) := ⟨_, rfl⟩
    have hl2l : l2.length ≤ 17 := by rw [hl2]; have := (putL_len l (exP [48, 97] 1 3 7 exS)).1; omega
    have hl2m : ∀ q ∈ l2, q.fit ∧ PodRoom q := fun q hq => by
      rw [hl2] at hq
      rcases putL_mem hq with h | h
      · exact ⟨(hlf q h).1, (hlf q h).2.1⟩
      · rw [h]; exact hpx _ _ _ _ _ (.inr rfl)
    have k2 : ∀ (d port : Int) (node : Str), (d = 2 ∨ d = 3) → Pure P 10 [stV ⟨N ++ [exN], l2⟩, .agg (podR (exP [48, 98] 2 d port node))] (· = stV ⟨N ++ [exN], putL l2 (exP [48, 98] 2 d port node)⟩) := fun d port node hd =>
      with_ok hG hI ⟨N ++ [exN], l2⟩ (exP [48, 98] 2 d port node) hnl ⟨hno2, by show l2.length ≤ _; omega, hnd2, fun q hq => (hl2m q hq).1, by show l2.length * 248 ≤ _; omega⟩ (hsm2 _) (fun q hq => (hl2m q hq).2) (hpx _ _ _ _ _ hd).2 (by show l2.length * 248 + 1000 ≤ _; omega)
    have k3 : ∀ (d port : Int) (node : Str), (d = 2 ∨ d = 3) → (node = exS ∨ node = nwS) → Pure P 11 [stV ⟨N ++ [exN], putL l2 (exP [48, 98] 2 d port node)⟩] (· = .b (decide (node = exS) && (decide (d = 2) && !decide (port = 7)))) := fun d port node hd hnode => by
      have h1 : (putL l2 (exP [48, 98] 2 d port node)).length ≤ 18 := by have := (putL_len l2 (exP [48, 98] 2 d port node)).1; omega
      have h2 : ∀ q ∈ putL l2 (exP [48, 98] 2 d port node), q.fit ∧ PodRoom q := fun q hq => by
        rcases putL_mem hq with h | h
        · exact hl2m q h
        · rw [h]; exact hpx _ _ _ _ _ hd
      have := whole_all hG ⟨N ++ [exN], putL l2 (exP [48, 98] 2 d port node)⟩ ⟨hno2, by show (putL l2 (exP [48, 98] 2 d port node)).length ≤ _; omega, hnd2, fun q hq => (h2 q hq).1, by show (putL l2 (exP [48, 98] 2 d port node)).length * 248 ≤ _; omega⟩ (hsm2 _) (fun q hq => (h2 q hq).2)
      rw [hl2, two_whole hN (fun q hq => ⟨(hlf q hq).2.2.1, (hlf q hq).2.2.2⟩) (by omega) [48, 97] [48, 98] (by decide) 1 2 d port node hd hnode, ← hl2] at this
      exact this
    have k1 : Pure P 10 [stV ⟨N ++ [exN], l⟩, .agg (podR (exP [48, 97] 1 3 7 exS))] (· = stV ⟨N ++ [exN], l2⟩) := by rw [hl2]; exact k1
    have c0 := k2 2 8 exS (.inl rfl)
    have c1 := k2 3 8 exS (.inr rfl)
    have c2 := k2 2 7 exS (.inl rfl)
    have c3 := k2 2 8 nwS (.inl rfl)
    have e0 := k3 2 8 exS (.inl rfl) (.inl rfl)
    have e1 := k3 3 8 exS (.inr rfl) (.inl rfl)
    have e2 := k3 2 7 exS (.inl rfl) (.inl rfl)
    have e3 := k3 2 8 nwS (.inl rfl) (.inr rfl)
    obtain ⟨⟨t1, t2⟩, t3⟩ := tmod4 which
    clear k2 k3 hpx hnd2 hl2m hlf
    have hde : deepElems (N.map nodeR) = some (N.map nodeR) := deep_map (fun _ => rfl) _
    have hnw : NwL [.agg [.s [48, 97], .i .i64 1, .i .i64 0, .i .i64 3, .i .i64 0, .i .i64 0, .sl none 1 [[.i .i64 7]], .nils, .nils, .nils, .s [], .nils, .i .i64 0, .nils, .s [101, 120, 116, 114, 97], .i .i64 1]] [.agg (podR (exP [48, 97] 1 3 7 exS))] := (by ((repeat (first | exact trivial | refine ⟨by first | exact ce1_free rfl | exact .inl .nil | exact .inl .tok | exact .inl (.rows (by ((repeat (first | exact .nil | refine .cons (by ((repeat (first | exact .nil | refine .cons (by first | exact .refl _ | exact .nil _) ?_)); first | done | fail)) ?_)); first | done | fail))) | exact .inr (.inl ⟨_, _, rfl, rfl, (by ((repeat (first | exact trivial | refine ⟨by first | exact ce_flat rfl | exact .nil | exact .tok | exact .ren rfl (Nat.le_of_ble_eq_true rfl) | exact .rows (by ((repeat (first | exact .nil | refine .cons (by ((repeat (first | exact .nil | refine .cons (by first | exact .refl _ | exact .nil _) ?_)); first | done | fail)) ?_)); first | done | fail)), ?_⟩)); first | done | fail))⟩), ?_⟩)); first | done | fail))
    rcases b with _ | _ <;> rcases N with _ | ⟨n0, r0⟩
    all_goals try obtain rfl : l = [] := hb rfl
    all_goals ((conv => whnf); repeat ((first | refine SCall.app (Pure.call1 hwa (by ((repeat (first | exact trivial | refine ⟨by first | exact ce1_free rfl | exact .inl .nil | exact .inl .tok | exact .inl (.rows (by ((repeat (first | exact .nil | refine .cons (by ((repeat (first | exact .nil | refine .cons (by first | exact .refl _ | exact .nil _) ?_)); first | done | fail)) ?_)); first | done | fail))) | exact .inr (.inl ⟨_, _, rfl, rfl, (by ((repeat (first | exact trivial | refine ⟨by first | exact ce_flat rfl | exact .nil | exact .tok | exact .ren rfl (Nat.le_of_ble_eq_true rfl) | exact .rows (by ((repeat (first | exact .nil | refine .cons (by ((repeat (first | exact .nil | refine .cons (by first | exact .refl _ | exact .nil _) ?_)); first | done | fail)) ?_)); first | done | fail)), ?_⟩)); first | done | fail))⟩), ?_⟩)); first | done | fail)) rfl) ?_ | refine SCall.app (Pure.call1 g1 (by ((repeat (first | exact trivial | refine ⟨by first | exact ce1_free rfl | exact .inl .nil | exact .inl .tok | exact .inl (.rows (by ((repeat (first | exact .nil | refine .cons (by ((repeat (first | exact .nil | refine .cons (by first | exact .refl _ | exact .nil _) ?_)); first | done | fail)) ?_)); first | done | fail))) | exact .inr (.inl ⟨_, _, rfl, rfl, (by ((repeat (first | exact trivial | refine ⟨by first | exact ce_flat rfl | exact .nil | exact .tok | exact .ren rfl (Nat.le_of_ble_eq_true rfl) | exact .rows (by ((repeat (first | exact .nil | refine .cons (by ((repeat (first | exact .nil | refine .cons (by first | exact .refl _ | exact .nil _) ?_)); first | done | fail)) ?_)); first | done | fail)), ?_⟩)); first | done | fail))⟩), ?_⟩)); first | done | fail)) rfl) ?_ | refine SCall.app (Pure.call1 g2 (by ((repeat (first | exact trivial | refine ⟨by first | exact ce1_free rfl | exact .inl .nil | exact .inl .tok | exact .inl (.rows (by ((repeat (first | exact .nil | refine .cons (by ((repeat (first | exact .nil | refine .cons (by first | exact .refl _ | exact .nil _) ?_)); first | done | fail)) ?_)); first | done | fail))) | exact .inr (.inl ⟨_, _, rfl, rfl, (by ((repeat (first | exact trivial | refine ⟨by first | exact ce_flat rfl | exact .nil | exact .tok | exact .ren rfl (Nat.le_of_ble_eq_true rfl) | exact .rows (by ((repeat (first | exact .nil | refine .cons (by ((repeat (first | exact .nil | refine .cons (by first | exact .refl _ | exact .nil _) ?_)); first | done | fail)) ?_)); first | done | fail)), ?_⟩)); first | done | fail))⟩), ?_⟩)); first | done | fail)) rfl) ?_ | refine SChk.mk (by simp [roomOk] at h6 ⊢; omega) ?_ | refine SEx.of hde ?_ | refine yf rfl ?_ | refine yt rfl ?_ | refine yo rfl ?_ | refine yc rfl ?_ | refine ys rfl ?_ | refine ye rfl ?_ | refine yn rfl ?_ | refine zw ?_ | refine zdt ?_ | refine zdf ?_ | refine znt ?_ | refine znf ?_ | refine zcd ?_ | refine zci ?_ | refine zc3 ?_ | refine SLoopZ.un rfl ?_) <;> (conv => whnf)))
    all_goals rcases t3 with t3 | t3 | t3 | t3
    all_goals ((conv => whnf); repeat ((first | refine w64e (m := 0) t3 (by decide) (by decide) ?_ | refine w64e (m := 1) t3 (by decide) (by decide) ?_ | refine w64e (m := 2) t3 (by decide) (by decide) ?_ | refine w64e (m := 3) t3 (by decide) (by decide) ?_ | refine SCall.app (Pure.call1 k1 (by refine ⟨.inr (.inl ⟨_, _, rfl, rfl, ⟨.rows (nd_ex _), .nil, trivial⟩⟩), ?_⟩; exact hnw) rfl) ?_ | refine SCall.app (Pure.call1 k1 (by refine ⟨.inr (.inl ⟨_, _, rfl, rfl, ⟨.rows (nd_ex _), ce_flat rfl, trivial⟩⟩), ?_⟩; exact hnw) rfl) ?_ | refine SCall.app (Pure.call1 k1 (by refine ⟨.inr (.inl ⟨_, _, rfl, rfl, ⟨.rows (nd_ex []), .nil, trivial⟩⟩), ?_⟩; exact hnw) rfl) ?_ | refine SCall.app (Pure.call1 k1 (by refine ⟨.inr (.inl ⟨_, _, rfl, rfl, ⟨.rows (nd_ex []), ce_flat rfl, trivial⟩⟩), ?_⟩; exact hnw) rfl) ?_ | refine SCall.app (Pure.call1 c0 (by ((repeat (first | exact trivial | refine ⟨by first | exact ce1_free rfl | exact .inl .nil | exact .inl .tok | exact .inl (.rows (by ((repeat (first | exact .nil | refine .cons (by ((repeat (first | exact .nil | refine .cons (by first | exact .refl _ | exact .nil _) ?_)); first | done | fail)) ?_)); first | done | fail))) | exact .inr (.inl ⟨_, _, rfl, rfl, (by ((repeat (first | exact trivial | refine ⟨by first | exact ce_flat rfl | exact .nil | exact .tok | exact .ren rfl (Nat.le_of_ble_eq_true rfl) | exact .rows (by ((repeat (first | exact .nil | refine .cons (by ((repeat (first | exact .nil | refine .cons (by first | exact .refl _ | exact .nil _) ?_)); first | done | fail)) ?_)); first | done | fail)), ?_⟩)); first | done | fail))⟩), ?_⟩)); first | done | fail)) rfl) ?_ | refine SCall.app (Pure.call1 e0 (by ((repeat (first | exact trivial | refine ⟨by first | exact ce1_free rfl | exact .inl .nil | exact .inl .tok | exact .inl (.rows (by ((repeat (first | exact .nil | refine .cons (by ((repeat (first | exact .nil | refine .cons (by first | exact .refl _ | exact .nil _) ?_)); first | done | fail)) ?_)); first | done | fail))) | exact .inr (.inl ⟨_, _, rfl, rfl, (by ((repeat (first | exact trivial | refine ⟨by first | exact ce_flat rfl | exact .nil | exact .tok | exact .ren rfl (Nat.le_of_ble_eq_true rfl) | exact .rows (by ((repeat (first | exact .nil | refine .cons (by ((repeat (first | exact .nil | refine .cons (by first | exact .refl _ | exact .nil _) ?_)); first | done | fail)) ?_)); first | done | fail)), ?_⟩)); first | done | fail))⟩), ?_⟩)); first | done | fail)) rfl) ?_ | refine SCall.app (Pure.call1 c1 (by ((repeat (first | exact trivial | refine ⟨by first | exact ce1_free rfl | exact .inl .nil | exact .inl .tok | exact .inl (.rows (by ((repeat (first | exact .nil | refine .cons (by ((repeat (first | exact .nil | refine .cons (by first | exact .refl _ | exact .nil _) ?_)); first | done | fail)) ?_)); first | done | fail))) | exact .inr (.inl ⟨_, _, rfl, rfl, (by ((repeat (first | exact trivial | refine ⟨by first | exact ce_flat rfl | exact .nil | exact .tok | exact .ren rfl (Nat.le_of_ble_eq_true rfl) | exact .rows (by ((repeat (first | exact .nil | refine .cons (by ((repeat (first | exact .nil | refine .cons (by first | exact .refl _ | exact .nil _) ?_)); first | done | fail)) ?_)); first | done | fail)), ?_⟩)); first | done | fail))⟩), ?_⟩)); first | done | fail)) rfl) ?_ | refine SCall.app (Pure.call1 e1 (by ((repeat (first | exact trivial | refine ⟨by first | exact ce1_free rfl | exact .inl .nil | exact .inl .tok | exact .inl (.rows (by ((repeat (first | exact .nil | refine .cons (by ((repeat (first | exact .nil | refine .cons (by first | exact .refl _ | exact .nil _) ?_)); first | done | fail)) ?_)); first | done | fail))) | exact .inr (.inl ⟨_, _, rfl, rfl, (by ((repeat (first | exact trivial | refine ⟨by first | exact ce_flat rfl | exact .nil | exact .tok | exact .ren rfl (Nat.le_of_ble_eq_true rfl) | exact .rows (by ((repeat (first | exact .nil | refine .cons (by ((repeat (first | exact .nil | refine .cons (by first | exact .refl _ | exact .nil _) ?_)); first | done | fail)) ?_)); first | done | fail)), ?_⟩)); first | done | fail))⟩), ?_⟩)); first | done | fail)) rfl) ?_ | refine SCall.app (Pure.call1 c2 (by ((repeat (first | exact trivial | refine ⟨by first | exact ce1_free rfl | exact .inl .nil | exact .inl .tok | exact .inl (.rows (by ((repeat (first | exact .nil | refine .cons (by ((repeat (first | exact .nil | refine .cons (by first | exact .refl _ | exact .nil _) ?_)); first | done | fail)) ?_)); first | done | fail))) | exact .inr (.inl ⟨_, _, rfl, rfl, (by ((repeat (first | exact trivial | refine ⟨by first | exact ce_flat rfl | exact .nil | exact .tok | exact .ren rfl (Nat.le_of_ble_eq_true rfl) | exact .rows (by ((repeat (first | exact .nil | refine .cons (by ((repeat (first | exact .nil | refine .cons (by first | exact .refl _ | exact .nil _) ?_)); first | done | fail)) ?_)); first | done | fail)), ?_⟩)); first | done | fail))⟩), ?_⟩)); first | done | fail)) rfl) ?_ | refine SCall.app (Pure.call1 e2 (by ((repeat (first | exact trivial | refine ⟨by first | exact ce1_free rfl | exact .inl .nil | exact .inl .tok | exact .inl (.rows (by ((repeat (first | exact .nil | refine .cons (by ((repeat (first | exact .nil | refine .cons (by first | exact .refl _ | exact .nil _) ?_)); first | done | fail)) ?_)); first | done | fail))) | exact .inr (.inl ⟨_, _, rfl, rfl, (by ((repeat (first | exact trivial | refine ⟨by first | exact ce_flat rfl | exact .nil | exact .tok | exact .ren rfl (Nat.le_of_ble_eq_true rfl) | exact .rows (by ((repeat (first | exact .nil | refine .cons (by ((repeat (first | exact .nil | refine .cons (by first | exact .refl _ | exact .nil _) ?_)); first | done | fail)) ?_)); first | done | fail)), ?_⟩)); first | done | fail))⟩), ?_⟩)); first | done | fail)) rfl) ?_ | refine SCall.app (Pure.call1 c3 (by ((repeat (first | exact trivial | refine ⟨by first | exact ce1_free rfl | exact .inl .nil | exact .inl .tok | exact .inl (.rows (by ((repeat (first | exact .nil | refine .cons (by ((repeat (first | exact .nil | refine .cons (by first | exact .refl _ | exact .nil _) ?_)); first | done | fail)) ?_)); first | done | fail))) | exact .inr (.inl ⟨_, _, rfl, rfl, (by ((repeat (first | exact trivial | refine ⟨by first | exact ce_flat rfl | exact .nil | exact .tok | exact .ren rfl (Nat.le_of_ble_eq_true rfl) | exact .rows (by ((repeat (first | exact .nil | refine .cons (by ((repeat (first | exact .nil | refine .cons (by first | exact .refl _ | exact .nil _) ?_)); first | done | fail)) ?_)); first | done | fail)), ?_⟩)); first | done | fail))⟩), ?_⟩)); first | done | fail)) rfl) ?_ | refine SCall.app (Pure.call1 e3 (by ((repeat (first | exact trivial | refine ⟨by first | exact ce1_free rfl | exact .inl .nil | exact .inl .tok | exact .inl (.rows (by ((repeat (first | exact .nil | refine .cons (by ((repeat (first | exact .nil | refine .cons (by first | exact .refl _ | exact .nil _) ?_)); first | done | fail)) ?_)); first | done | fail))) | exact .inr (.inl ⟨_, _, rfl, rfl, (by ((repeat (first | exact trivial | refine ⟨by first | exact ce_flat rfl | exact .nil | exact .tok | exact .ren rfl (Nat.le_of_ble_eq_true rfl) | exact .rows (by ((repeat (first | exact .nil | refine .cons (by ((repeat (first | exact .nil | refine .cons (by first | exact .refl _ | exact .nil _) ?_)); first | done | fail)) ?_)); first | done | fail)), ?_⟩)); first | done | fail))⟩), ?_⟩)); first | done | fail)) rfl) ?_ | refine yf rfl ?_ | refine yt rfl ?_ | refine yo rfl ?_ | refine yc rfl ?_ | refine ys rfl ?_ | refine ye rfl ?_ | refine yn rfl ?_ | refine zw ?_ | refine zdt ?_ | refine zdf ?_ | refine znt ?_ | refine znf ?_ | refine zcd ?_ | refine zci ?_ | refine zc3 ?_ | refine SLoopZ.un rfl ?_) <;> (conv => whnf)))
    all_goals (rw [t3]; rfl)
end
end Go.Eng
