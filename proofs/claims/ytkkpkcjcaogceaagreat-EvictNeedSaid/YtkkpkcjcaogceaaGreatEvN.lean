/-
EvictNeed: without those that go a pod may go there; they are all of lesser priority, and there.
-/
import Derived.Test.YtkkpkcjcaogceaaGreatLaw0
import Derived.Test.YtkkpkcjcaogceaaGreatEvV
import Derived.Test.YtkkpkcjcaogceaaGreatEvM
import Derived.Test.YtkkpkcjcaogceaaGreatWiG
import Derived.Test.YtkkpkcjcaogceaaGreatAfN
set_option linter.unusedVariables false
set_option linter.unusedSimpArgs false
namespace Go.Eng
open Go
section
variable {P : Program} (hG : FnsOk P AF.fns.get)
include hG
set_option maxHeartbeats 16000000 in
set_option maxRecDepth 20000 in
theorem evictNeed_ok (hk : okFn P 3 AF.en = true) (hb : ACall P 9 [] noG (fun r _ => r = .b true)) (hcmp : CmpOk P) (hS : SortOk P 46 42)
    (s : StD) (p : PodD) (hs : s.arg) (hp : p.fit ∧ p.sok) : ACall P 3 [stV s, .agg (podR p)] noG (fun r _ => r = .b true) := by
  refine fn_sz hk rfl ?_
  ((conv => whnf); repeat ((first | refine yf rfl ?_ | refine yt rfl ?_ | refine yo rfl ?_ | refine yc rfl ?_ | refine ys rfl ?_ | refine ye rfl ?_ | refine yn rfl ?_ | refine zw ?_ | refine zdt ?_ | refine zdf ?_ | refine znt ?_ | refine znf ?_ | refine zcd ?_ | refine zci ?_ | refine zc3 ?_) <;> (conv => whnf)))
  refine ⟨hb.frame rfl fun v h' hv => ?_⟩
  subst hv
  refine ⟨rfl, ?_⟩
  ((conv => whnf); repeat ((first | refine yf rfl ?_ | refine yt rfl ?_ | refine yo rfl ?_ | refine yc rfl ?_ | refine ys rfl ?_ | refine ye rfl ?_ | refine yn rfl ?_ | refine zw ?_ | refine zdt ?_ | refine zdf ?_ | refine znt ?_ | refine znf ?_ | refine zcd ?_ | refine zci ?_ | refine zc3 ?_) <;> (conv => whnf)))
  refine SCall.mk (Pure.state (hs.cut hG) rfl fun w hw => ?_)
  have hwo := hw.ok hs
  have hsm : Small w := fun n hn => by
    have := hw.nodes.sub n hn
    omega
  have h6 : w.nodes.length ≤ 6 := hw.nodes.len
  have h16 := hw.plen
  have hroom : ∀ q ∈ w.pods, PodRoom q := fun q hq => (hw.pmay q hq).room
  have hnam := hw.pnam
  have hlm : (w.nodes.map nodeR).length = w.nodes.length := List.length_map _
  ((conv => whnf); repeat ((first | refine yf rfl ?_ | refine yt rfl ?_ | refine yo rfl ?_ | refine yc rfl ?_ | refine ys rfl ?_ | refine ye rfl ?_ | refine yn rfl ?_ | refine zw ?_ | refine zdt ?_ | refine zdf ?_ | refine znt ?_ | refine znf ?_ | refine zcd ?_ | refine zci ?_ | refine zc3 ?_) <;> (conv => whnf)))
  refine SLoopZ.by (fun q fr st => ∃ i : Nat, i ≤ w.nodes.length ∧ q = w.nodes.length - i ∧
      fr = [(22, .i .i64 i), (21, .i .i64 (w.nodes.map nodeR).length), (3, .p (.l 1) 0), (2, .p (.l 0) 0)] ∧
      st = ⟨noG, ⟨2, [(1, .cs (podR p)), (0, .cs [.sl none 6 (w.nodes.map nodeR), .sl none 16 (w.pods.map podR)])]⟩⟩)
    w.nodes.length ⟨_, _, ?_, 0, Nat.zero_le _, rfl, rfl, rfl⟩ ?_
  · exact tL [0, 1]
  rintro q fr st ⟨i, hi, rfl, rfl, rfl⟩ R hR
  (conv => whnf)
  refine SIf.ds (fun hlt => ?_) (fun hge => ?_)
  · have hi' : i < w.nodes.length := by omega
    have he := List.getElem?_eq_getElem hi'
    generalize w.nodes[i] = e at he
    have hv := vict_ok hG hcmp hS w p e.name hwo hp.1 hsm (by omega) (by omega) hroom
    cases hvd : victD w p e.name with
    | none =>
      have hf : feasD w p e.name = false := by
        cases h : feasD w p e.name with
        | false => rfl
        | true => rw [vict_feas (names_inj hnam) h] at hvd; cases hvd
      have k1 := feas_ok hG w p e.name hwo hp.1 hsm
      rw [hf] at k1
      rw [hvd] at hv
      ((conv => whnf); repeat ((first | refine SCall.app (Pure.go hv rfl) ?_ | refine SCall.app (Pure.go k1 rfl) ?_ | refine SEx.of (map_get' (by omega) he) ?_ | refine yf rfl ?_ | refine yt rfl ?_ | refine yo rfl ?_ | refine yc rfl ?_ | refine ys rfl ?_ | refine ye rfl ?_ | refine yn rfl ?_ | refine zw ?_ | refine zdt ?_ | refine zdf ?_ | refine znt ?_ | refine znf ?_ | refine zcd ?_ | refine zci ?_ | refine zc3 ?_) <;> (conv => whnf)))
      refine hR (w.nodes.length - (i + 1)) _ _ (by omega) ⟨_, _, ?_, i + 1, by omega, rfl, rfl, rfl⟩
      exact tL [0, 1]
    | some l =>
      obtain ⟨hf, hall⟩ := vict_some hvd
      have k1 := feas_ok hG (withoutD w l) p e.name (hwo.without l) hp.1 (show Small (withoutD w l) from hsm)
      rw [hf] at k1
      have hll : l.length ≤ 1000 := by
        have := vict_len hvd
        omega
      have k2 := without_ok hG w l (by omega) hwo hsm hroom (by unfold LenOk; omega)
      rw [hvd] at hv
      have hlm2 : (l.map strR).length = l.length := List.length_map _
      ((conv => whnf); repeat ((first | refine SCall.app (Pure.go hv rfl) ?_ | refine SCall.app (Pure.go k2 rfl) ?_ | refine SCall.app (Pure.go k1 rfl) ?_ | refine SEx.of (map_get' (by omega) he) ?_ | refine yf rfl ?_ | refine yt rfl ?_ | refine yo rfl ?_ | refine yc rfl ?_ | refine ys rfl ?_ | refine ye rfl ?_ | refine yn rfl ?_ | refine zw ?_ | refine zdt ?_ | refine zdf ?_ | refine znt ?_ | refine znf ?_ | refine zcd ?_ | refine zci ?_ | refine zc3 ?_) <;> (conv => whnf)))
      refine SLoopZ.by (fun q fr st => ∃ j : Nat, j ≤ l.length ∧ q = l.length - j ∧
          fr = [(53, .i .i64 j), (52, .i .i64 (l.map strR).length), (51, .sl none 1 (l.map strR)), (7, .s e.name), (22, .i .i64 i), (21, .i .i64 (w.nodes.map nodeR).length), (3, .p (.l 1) 0), (2, .p (.l 0) 0)] ∧
          st = ⟨noG, ⟨2, [(1, .cs (podR p)), (0, .cs [.sl none 6 (w.nodes.map nodeR), .sl none 16 (w.pods.map podR)])]⟩⟩)
        l.length ⟨_, _, ?_, 0, Nat.zero_le _, rfl, rfl, rfl⟩ ?_
      · exact tL [0, 1]
      rintro q fr st ⟨j, hj, rfl, rfl, rfl⟩ R' hR'
      (conv => whnf)
      refine SIf.ds (fun hlt2 => ?_) (fun hge2 => ?_)
      · have hj' : j < l.length := by omega
        have hx := List.getElem?_eq_getElem hj'
        have hxm := hall _ (List.getElem_mem hj')
        generalize l[j] = x at hx hxm
        obtain ⟨z, hz, hzn, hznode, hzp⟩ := hxm
        have k3 := statePod_ok hG w x hwo.pods hroom
        rw [← hzn, pod_found hnam hz] at k3
        subst hzn
        have hne : (!(z.node == e.name)) = false := by rw [hznode]; simp
        have hpr : decide (p.prio ≤ z.prio) = false := decide_eq_false (by omega)
        ((conv => whnf); repeat ((first | refine SCall.app (Pure.go k3 rfl) ?_ | refine SIf.ff hne ?_ | refine SIf.ff hpr ?_ | refine SEx.of (map_get' (by omega) hx) ?_ | refine yf rfl ?_ | refine yt rfl ?_ | refine yo rfl ?_ | refine yc rfl ?_ | refine ys rfl ?_ | refine ye rfl ?_ | refine yn rfl ?_ | refine zw ?_ | refine zdt ?_ | refine zdf ?_ | refine znt ?_ | refine znf ?_ | refine zcd ?_ | refine zci ?_ | refine zc3 ?_) <;> (conv => whnf)))
        refine hR' (l.length - (j + 1)) _ _ (by omega) ⟨_, _, ?_, j + 1, by omega, rfl, rfl, rfl⟩
        exact tL [0, 1]
      · ((conv => whnf); repeat ((first | refine yf rfl ?_ | refine yt rfl ?_ | refine yo rfl ?_ | refine yc rfl ?_ | refine ys rfl ?_ | refine ye rfl ?_ | refine yn rfl ?_ | refine zw ?_ | refine zdt ?_ | refine zdf ?_ | refine znt ?_ | refine znf ?_ | refine zcd ?_ | refine zci ?_ | refine zc3 ?_) <;> (conv => whnf)))
        refine hR (w.nodes.length - (i + 1)) _ _ (by omega) ⟨_, _, ?_, i + 1, by omega, rfl, rfl, rfl⟩
        exact tL [0, 1]
  · ((conv => whnf); repeat ((first | refine yf rfl ?_ | refine yt rfl ?_ | refine yo rfl ?_ | refine yc rfl ?_ | refine ys rfl ?_ | refine ye rfl ?_ | refine yn rfl ?_ | refine zw ?_ | refine zdt ?_ | refine zdf ?_ | refine znt ?_ | refine znf ?_ | refine zcd ?_ | refine zci ?_ | refine zc3 ?_) <;> (conv => whnf)))
end
end Go.Eng
