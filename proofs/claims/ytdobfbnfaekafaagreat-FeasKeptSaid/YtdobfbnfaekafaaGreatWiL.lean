/-
FeasKept: who goes where it may leaves a whole state whole.
-/
import Derived.Test.YtdobfbnfaekafaaGreatLaw0
import Derived.Test.YtdobfbnfaekafaaGreatWiA
import Derived.Test.YtdobfbnfaekafaaGreatWiC
import Derived.Test.YtdobfbnfaekafaaGreatWiK
import Derived.Test.YtdobfbnfaekafaaGreatWiG
import Derived.Test.YtdobfbnfaekafaaGreatFitW3
set_option linter.unusedVariables false
set_option linter.unusedSimpArgs false
namespace Go.Eng
open Go
def PodsIn (l : List PodD) : Prop := ∀ q ∈ l, q.fit ∧ PodMay q
theorem tmod_nat (i : Nat) {n : Nat} (hn : 0 < n) : ∃ j : Nat, j < n ∧ ((i : Nat) : Int).tmod (n : Nat) = j := ⟨i % n, Nat.mod_lt _ hn, rfl⟩
theorem where_node {s : StD} {p : PodD} {x : Str} (h : x ∈ whereD s p) : ∃ n ∈ s.nodes, n.name = x := by
  obtain ⟨n, hn, rfl⟩ := List.mem_map.1 h
  exact ⟨n, (List.mem_filter.1 hn).1, rfl⟩
section
variable {P : Program} (hG : FnsOk P AF.fns.get)
include hG
set_option maxHeartbeats 16000000 in
set_option maxRecDepth 20000 in
theorem feasKept_ok (hI : InsOk P 38) (hb : ACall P 5 [] noG (fun r _ => r = .b true)) (hcmp : ∀ (a b : Str) (h : Heap) (K : V → Heap → Prop), K (.i .i64 (cmpB a b)) h → ACall P 75 [.s a, .s b] h K) (s : StD) (ps : List PodD) (hs : s.arg) (hl : LenOk ps) (hps : ∀ p ∈ ps, p.fit ∧ p.sok) :
    ACall P 3 [stV s, .sl none 16 (ps.map podR)] noG (fun r _ => r = .b true) := by
  have hlm : (ps.map podR).length = ps.length := List.length_map _
  unfold LenOk at hl
  refine fn_sz (hG _ AF.f3 rfl) rfl ?_
  ((conv => whnf); repeat ((first | refine yf rfl ?_ | refine yt rfl ?_ | refine yo rfl ?_ | refine yc rfl ?_ | refine ys rfl ?_ | refine ye rfl ?_ | refine yn rfl ?_ | refine zw ?_ | refine zdt ?_ | refine zdf ?_ | refine znt ?_ | refine znf ?_ | refine zcd ?_ | refine zci ?_ | refine zc3 ?_) <;> (conv => whnf)))
  refine ⟨hb.frame rfl fun v h' hv => ?_⟩
  subst hv
  refine ⟨rfl, ?_⟩
  ((conv => whnf); repeat ((first | refine yf rfl ?_ | refine yt rfl ?_ | refine yo rfl ?_ | refine yc rfl ?_ | refine ys rfl ?_ | refine ye rfl ?_ | refine yn rfl ?_ | refine zw ?_ | refine zdt ?_ | refine zdf ?_ | refine znt ?_ | refine znf ?_ | refine zcd ?_ | refine zci ?_ | refine zc3 ?_) <;> (conv => whnf)))
  refine SCall.mk (Pure.state (hs.cut hG) rfl fun w hw => ?_)
  have hwo := hw.ok hs
  have hsm : Small w := fun n hn => by
    have := hw.nodes.sub n hn
    omega
  have h6 : w.nodes.length ≤ 6 := hw.nodes.len
  have hcap : ∀ n ∈ w.nodes, ResMay n.cap := fun n hn => (hw.nodes.sub n hn).2.2.2.2.2
  have hnam : ∀ n ∈ w.nodes, 1 ≤ n.name.length := fun n hn => (hw.nodes.sub n hn).2.2.2.2.1
  have hnn := hw.nodes.names
  have hso := hw.nodes.so
  have hno := hwo.nodes
  have hnd := hwo.node
  have hsm' : ∀ l, Small ⟨w.nodes, l⟩ := fun l => hsm
  ((conv => whnf); repeat ((first | refine yf rfl ?_ | refine yt rfl ?_ | refine yo rfl ?_ | refine yc rfl ?_ | refine ys rfl ?_ | refine ye rfl ?_ | refine yn rfl ?_ | refine zw ?_ | refine zdt ?_ | refine zdf ?_ | refine znt ?_ | refine znf ?_ | refine zcd ?_ | refine zci ?_ | refine zc3 ?_) <;> (conv => whnf)))
  generalize w.nodes = N at hcap hnam hnn hso hno hnd hsm' h6 ⊢
  clear hwo hsm hw
  refine SLoopZ.by (fun q fr st => ∃ (i : Nat) (l : List PodD), i ≤ ps.length ∧ i ≤ 12 ∧ q = ps.length - i ∧ l.length ≤ i ∧ PodsIn l ∧ wholeD ⟨N, l⟩ = true ∧
      fr = [(6, .i .i64 i), (2, .p (.l 0) 0), (1, .sl none 16 (ps.map podR))] ∧ st = ⟨noG, ⟨1, [(0, .cs [.sl none 6 (N.map nodeR), .sl none 16 (l.map podR)])]⟩⟩)
    ps.length ⟨_, _, ?_, 0, [], Nat.zero_le _, Nat.zero_le _, rfl, Nat.zero_le _, (fun _ h => by cases h), whole_none hcap, rfl, rfl⟩ ?_
  · exact tL [0]
  rintro q fr st ⟨i, l, hi, hi2, rfl, hil, hgood, hwh, rfl, rfl⟩ R hR
  have hlm2 : (l.map podR).length = l.length := List.length_map _
  have hgk : (⟨N, l⟩ : StD).ok := ⟨hno, by show l.length ≤ _; omega, hnd, fun q hq => (hgood q hq).1, by show l.length * 248 ≤ _; omega⟩
  have hroom : ∀ q ∈ l, PodRoom q := fun q hq => (hgood q hq).2.room
  have hwa := whole_all hG ⟨N, l⟩ hgk (hsm' l) hroom
  rw [hwh] at hwa
  by_cases hin : i < ps.length ∧ i < 12
  · obtain ⟨hi1, hi3⟩ := hin
    have he := List.getElem?_eq_getElem hi1
    have hm := hps _ (List.getElem_mem hi1)
    generalize ps[i] = e at he hm
    obtain ⟨p, hp⟩ : ∃ p : PodD, p = { e with node := [], term := 0 } := ⟨_, rfl⟩
    have hpf : p.fit := by rw [hp]; exact ⟨⟨hm.1.ports, hm.1.labels, hm.1.tols, hm.1.sel, hm.1.anti, hm.1.even⟩, hm.1.req⟩
    have hps' : p.sok := by
      rw [hp]
      exact ⟨hm.2.name, hm.2.topo, Nat.zero_le _, hm.2.labels, hm.2.sel, hm.2.tols, hm.2.anti, hm.2.even⟩
    have hgp := statePod_ok hG ⟨N, l⟩ e.name hgk.pods hroom
    have hmp := rpod_ok hG p hpf.toOk hps'
    have hwr := where_ok hG hcmp ⟨N, l⟩ p hgk hpf (hsm' l) h6 hso
    cases hfi : l.find? (fun q => q.name == e.name) with
    | some q0 =>
      have hgp' : podO ((⟨N, l⟩ : StD).pods.find? fun q => q.name == e.name) = podO (some q0) := congrArg podO hfi
      rw [hgp'] at hgp
      ((conv => whnf); repeat ((first | refine SCall.app (Pure.go hgp rfl) ?_ | refine SEx.of (map_get' (by omega) he) ?_ | refine yf rfl ?_ | refine yt rfl ?_ | refine yo rfl ?_ | refine yc rfl ?_ | refine ys rfl ?_ | refine ye rfl ?_ | refine yn rfl ?_ | refine zw ?_ | refine zdt ?_ | refine zdf ?_ | refine znt ?_ | refine znf ?_ | refine zcd ?_ | refine zci ?_ | refine zc3 ?_) <;> (conv => whnf)))
      refine hR (ps.length - (i + 1)) _ _ (by omega) ⟨_, _, ?_, i + 1, l, by omega, by omega, rfl, by omega, hgood, hwh, rfl, rfl⟩
      exact tL [0]
    | none =>
      have hgp' : podO ((⟨N, l⟩ : StD).pods.find? fun q => q.name == e.name) = podO none := congrArg podO hfi
      rw [hgp'] at hgp
      have hfx : l.findIdx? (fun q => q.name == p.name) = none := by
        rw [List.findIdx?_eq_none_iff]
        intro x hx
        have := List.find?_eq_none.1 hfi x hx
        rw [hp]
        simpa using this
      have hmem : ∀ x, x ∈ whereD ⟨N, l⟩ p → feasD ⟨N, l⟩ p x = true ∧ (x == ([] : Str)) = false := fun x hx => ⟨where_mem hx, by
        obtain ⟨n, hn, hnx⟩ := where_node hx
        have := hnam n hn
        rw [← hnx]
        cases hnn : n.name with
        | nil => rw [hnn] at this; simp at this
        | cons _ _ => rfl⟩
      obtain ⟨ws, hws⟩ : ∃ ws, ws = whereD ⟨N, l⟩ p := ⟨_, rfl⟩
      rw [← hws] at hwr hmem
      have hwl : ws.length ≤ 6 := by
        rw [hws, whereD, List.length_map]
        exact Nat.le_trans (List.length_filter_le _ _) h6
      clear hws
      have hnew : ∀ x, x ∈ ws → PodMay p → PodsIn (putL l (bindD p x)) ∧ wholeD ⟨N, putL l (bindD p x)⟩ = true ∧ (putL l (bindD p x)).length ≤ i + 1 := fun x hx hmay =>
        ⟨fun q hq => by
          rcases putL_mem hq with h | h
          · exact hgood q h
          · rw [h]; exact ⟨⟨⟨hpf.ports, hpf.labels, hpf.tols, hpf.sel, hpf.anti, hpf.even⟩, hpf.req⟩, ⟨hmay.ports, hmay.labels, hmay.sel, hmay.tols, hmay.anti, hmay.even, hmay.req⟩⟩,
          kept_whole hnn (hmem x hx).2 (fun q hq => (hgood q hq).2.req) hmay.req (by omega) hwh (hmem x hx).1 hfx,
          by have := (putL_len l (bindD p x)).1; omega⟩
      have hwith : ∀ x, x ∈ ws → PodMay p → Pure P 10 [stV ⟨N, l⟩, .agg (podR (bindD p x))] (· = stV ⟨N, putL l (bindD p x)⟩) := fun x hx hmay =>
        with_ok hG hI ⟨N, l⟩ (bindD p x) (by show N.length ≤ 1000; omega) hgk (hsm' l) hroom (PodMay.room ⟨hmay.ports, hmay.labels, hmay.sel, hmay.tols, hmay.anti, hmay.even, hmay.req⟩) (by show l.length * 248 + 1000 ≤ _; omega)
      have hwhole : ∀ x, x ∈ ws → PodMay p → Pure P 11 [stV ⟨N, putL l (bindD p x)⟩] (· = .b true) := fun x hx hmay => by
        obtain ⟨h1, h2, h3⟩ := hnew x hx hmay
        have := whole_all hG ⟨N, putL l (bindD p x)⟩ ⟨hno, by show (putL l (bindD p x)).length ≤ _; omega, hnd, fun q hq => (h1 q hq).1, by show (putL l (bindD p x)).length * 248 ≤ _; omega⟩ (hsm' _) (fun q hq => (h1 q hq).2.room)
        rw [h2] at this
        exact this
      have hfeas : ∀ x, x ∈ ws → PodMay p → Pure P 12 [stV ⟨N, putL l (bindD p x)⟩, .agg (podR (bindD p x)), .s x] (· = .b false) := fun x hx hmay => by
        obtain ⟨h1, h2, h3⟩ := hnew x hx hmay
        have := feas_ok hG ⟨N, putL l (bindD p x)⟩ (bindD p x) x ⟨hno, by show (putL l (bindD p x)).length ≤ _; omega, hnd, fun q hq => (h1 q hq).1, by show (putL l (bindD p x)).length * 248 ≤ _; omega⟩ ⟨⟨hpf.ports, hpf.labels, hpf.tols, hpf.sel, hpf.anti, hpf.even⟩, hpf.req⟩ (hsm' _)
        rw [bound_not (hmem x hx).2] at this
        exact this
      clear hmem hfi hgp' hfx
      subst hp
      ((conv => whnf); repeat ((first | refine SCall.app (Pure.go hgp rfl) ?_ | refine SEx.of (map_get' (by omega) he) ?_ | refine yf rfl ?_ | refine yt rfl ?_ | refine yo rfl ?_ | refine yc rfl ?_ | refine ys rfl ?_ | refine ye rfl ?_ | refine yn rfl ?_ | refine zw ?_ | refine zdt ?_ | refine zdf ?_ | refine znt ?_ | refine znf ?_ | refine zcd ?_ | refine zci ?_ | refine zc3 ?_) <;> (conv => whnf)))
      refine ⟨Pure.any hmp rfl fun r hr => ?_⟩
      cases r
      · ((conv => whnf); repeat ((first | refine yf rfl ?_ | refine yt rfl ?_ | refine yo rfl ?_ | refine yc rfl ?_ | refine ys rfl ?_ | refine ye rfl ?_ | refine yn rfl ?_ | refine zw ?_ | refine zdt ?_ | refine zdf ?_ | refine znt ?_ | refine znf ?_ | refine zcd ?_ | refine zci ?_ | refine zc3 ?_) <;> (conv => whnf)))
        refine hR (ps.length - (i + 1)) _ _ (by omega) ⟨_, _, ?_, i + 1, l, by omega, by omega, rfl, by omega, hgood, hwh, rfl, rfl⟩
        exact tL [0]
      have hmay := hr rfl
      cases ws with
      | nil =>
        ((conv => whnf); repeat ((first | refine SCall.app (Pure.go hwr rfl) ?_ | refine SEx.of (map_get' (by omega) he) ?_ | refine yf rfl ?_ | refine yt rfl ?_ | refine yo rfl ?_ | refine yc rfl ?_ | refine ys rfl ?_ | refine ye rfl ?_ | refine yn rfl ?_ | refine zw ?_ | refine zdt ?_ | refine zdf ?_ | refine znt ?_ | refine znf ?_ | refine zcd ?_ | refine zci ?_ | refine zc3 ?_) <;> (conv => whnf)))
        refine hR (ps.length - (i + 1)) _ _ (by omega) ⟨_, _, ?_, i + 1, l, by omega, by omega, rfl, by omega, hgood, hwh, rfl, rfl⟩
        exact tL [0]
      | cons x0 r0 =>
        obtain ⟨ws, hwsd⟩ : ∃ ws, ws = x0 :: r0 := ⟨_, rfl⟩
        have hwp : 0 < ws.length := by rw [hwsd]; simp
        rw [← hwsd] at hwr hwl hnew hwith hwhole hfeas
        have hwm : (ws.map strR).length = ws.length := List.length_map _
        clear hwsd
        obtain ⟨j, hj, hjm⟩ := tmod_nat i hwp
        have hx := List.getElem?_eq_getElem hj
        have hxm := List.getElem_mem hj
        generalize ws[j] = x at hx hxm
        have k1 := hwith x hxm hmay
        have k2 := hwhole x hxm hmay
        have k3 := hfeas x hxm hmay
        obtain ⟨n1, n2, n3⟩ := hnew x hxm hmay
        have hne : (!decide (((ws.map strR).length : Int) = 0)) = true := by rw [hwm, decide_eq_false (by omega)]; rfl
        have hix : idxOk (((i : Nat) : Int).tmod ((ws.map strR).length : Nat)) (ws.map strR).length = true := by rw [hwm, hjm]; simp [idxOk]; omega
        have hjn : (((i : Nat) : Int).tmod ((ws.map strR).length : Nat)).toNat = j := by rw [hwm, hjm]; rfl
        have hjr : -9223372036854775808 ≤ ((i : Nat) : Int).tmod ((ws.map strR).length : Nat) ∧ ((i : Nat) : Int).tmod ((ws.map strR).length : Nat) ≤ 9223372036854775807 := by rw [hwm, hjm]; omega
        ((conv => whnf); repeat ((first | refine SCall.app (Pure.go hwr rfl) ?_ | refine SIf.df (by omega) ?_ | refine SChk.mk hne ?_ | refine SWrap.w64 hjr.1 hjr.2 ?_ | refine SChk.mk hix ?_ | refine SCall.app (Pure.go k1 rfl) ?_ | refine SCall.app (Pure.go k2 rfl) ?_ | refine SCall.app (Pure.go k3 rfl) ?_ | refine SEx.of (map_get' (by omega) he) ?_ | refine SEx.of (map_get' hjn hx) ?_ | refine yf rfl ?_ | refine yt rfl ?_ | refine yo rfl ?_ | refine yc rfl ?_ | refine ys rfl ?_ | refine ye rfl ?_ | refine yn rfl ?_ | refine zw ?_ | refine zdt ?_ | refine zdf ?_ | refine znt ?_ | refine znf ?_ | refine zcd ?_ | refine zci ?_ | refine zc3 ?_) <;> (conv => whnf)))
        refine hR (ps.length - (i + 1)) _ _ (by omega) ⟨_, _, ?_, i + 1, _, by omega, by omega, rfl, n3, n1, n2, rfl, rfl⟩
        exact tL [0]
  · have h12 : ¬ i < ps.length ∨ (i < ps.length ∧ ¬ i < 12) := by omega
    rcases h12 with h1 | ⟨h1, h2⟩
    all_goals (((conv => whnf); repeat ((first | refine SCall.app (Pure.go hwa rfl) ?_ | refine yf rfl ?_ | refine yt rfl ?_ | refine yo rfl ?_ | refine yc rfl ?_ | refine ys rfl ?_ | refine ye rfl ?_ | refine yn rfl ?_ | refine zw ?_ | refine zdt ?_ | refine zdf ?_ | refine znt ?_ | refine znf ?_ | refine zcd ?_ | refine zci ?_ | refine zc3 ?_) <;> (conv => whnf))))
end
end Go.Eng
