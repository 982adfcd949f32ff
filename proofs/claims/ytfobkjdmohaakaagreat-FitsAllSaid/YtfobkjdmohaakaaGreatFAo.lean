/-
FitsAll, as the abstract run has it.
-/
import Derived.Test.YtfobkjdmohaakaaGreatFitD
import Derived.Test.YtfobkjdmohaakaaGreatFitE
import Derived.Test.YtfobkjdmohaakaaGreatArgsD
set_option linter.unusedVariables false
set_option linter.unusedSimpArgs false
namespace Go.Eng
open Go
theorem CutOf.ok {s w : StD} (h : CutOf s w) (ha : s.arg) : w.ok := by
  have h1 := h.nodes.len
  have h2 := h.plen
  refine ⟨by unfold LenOk; omega, by unfold LenOk; omega, fun n hn => (ha.node n (h.nodes.sub n hn).1).1.toOk, fun p hp => (ha.pod p (h.psub p hp)).1, by omega⟩
theorem StD.arg.cut {s : StD} (h : s.arg) {P : Program} (hG : FnsOk P AF.fns.get) : Pure P 35 [stV s] (fun u => ∃ w, u = stV w ∧ CutOf s w) :=
  cut_ok hG s h.nodes h.pods (fun n hn => ⟨(h.node n hn).1.toOk, (h.node n hn).2⟩) (fun p hp => ⟨(h.pod p hp).1.toOk, (h.pod p hp).2⟩)
theorem bxx (x : Bool) : (x == x && true) = true := by cases x <;> rfl
section
variable {P : Program} (hG : FnsOk P AF.fns.get)
include hG
set_option maxHeartbeats 4000000 in
set_option maxRecDepth 10000 in
theorem fitsAll_ok (hb : ACall P 21 [] noG (fun r _ => r = .b true)) (s : StD) (p : PodD) (n : NodeD) (hs : s.arg) (hp : p.fit ∧ p.sok) (hn : n.fit ∧ n.sok) : ACall P 10 [stV s, .agg (podR p), .agg (nodeR n)] noG (fun r _ => r = .b true) := by
  refine fn_sz (hG _ AF.f10 rfl) rfl ?_
  ((conv => whnf); repeat ((first | refine SIf.ff rfl ?_ | refine SIf.tt rfl ?_ | refine SOpt.of rfl ?_ | refine SChk.mk rfl ?_ | refine SSame.mk rfl ?_ | refine SEx.of rfl ?_ | refine SOpt.no rfl ?_ | refine SWrap.w64 (by omega) (by omega) ?_ | refine SIf.dt (by omega) ?_ | refine SIf.df (by omega) ?_ | refine SIf.nt (by omega) ?_ | refine SIf.nf (by omega) ?_ | refine SChk.d (by omega) ?_ | refine SChk.ix (by omega) (by omega) ?_ | refine SChk.d3 (by omega) (by omega) (by omega) ?_) <;> (conv => whnf)))
  refine ⟨hb.frame rfl fun v h' hv => ?_⟩
  subst hv
  refine ⟨rfl, ?_⟩
  ((conv => whnf); repeat ((first | refine SIf.ff rfl ?_ | refine SIf.tt rfl ?_ | refine SOpt.of rfl ?_ | refine SChk.mk rfl ?_ | refine SSame.mk rfl ?_ | refine SEx.of rfl ?_ | refine SOpt.no rfl ?_ | refine SWrap.w64 (by omega) (by omega) ?_ | refine SIf.dt (by omega) ?_ | refine SIf.df (by omega) ?_ | refine SIf.nt (by omega) ?_ | refine SIf.nf (by omega) ?_ | refine SChk.d (by omega) ?_ | refine SChk.ix (by omega) (by omega) ?_ | refine SChk.d3 (by omega) (by omega) (by omega) ?_) <;> (conv => whnf)))
  refine SCall.mk (Pure.state (hs.cut hG) rfl fun w hw => ?_)
  have hwo := hw.ok hs
  have a1 := room_ok hG w p n hwo hp.1.req
  have a2 := rroom_ok hG w p n hwo
  have b1 := ports_ok hG w p n hwo hp.1.ports
  have b2 := rports_ok hG w p n hwo hp.1.ports
  have c1 := wants_ok hG p n hp.1.toOk hn.1.toOk
  have c2 := rmatch_ok hG p.sel n.labels hp.1.sel hn.1.labels
  have d1 := borne_ok hG p n hp.1.toOk hn.1.toOk
  have d2 := rborne_ok hG p.tols n.taints hp.1.tols hn.1.taints
  ((conv => whnf); repeat ((first | refine SCall.app (Pure.go a1 rfl) ?_ | refine SCall.app (Pure.go a2 rfl) ?_ | refine SCall.app (Pure.go b1 rfl) ?_ | refine SCall.app (Pure.go b2 rfl) ?_ | refine SCall.app (Pure.go c1 rfl) ?_ | refine SCall.app (Pure.go c2 rfl) ?_ | refine SCall.app (Pure.go d1 rfl) ?_ | refine SCall.app (Pure.go d2 rfl) ?_ | refine SIf.tt (bxx _) ?_ | refine SIf.ff rfl ?_ | refine SIf.tt rfl ?_ | refine SOpt.of rfl ?_ | refine SChk.mk rfl ?_ | refine SSame.mk rfl ?_ | refine SEx.of rfl ?_ | refine SOpt.no rfl ?_ | refine SWrap.w64 (by omega) (by omega) ?_ | refine SIf.dt (by omega) ?_ | refine SIf.df (by omega) ?_ | refine SIf.nt (by omega) ?_ | refine SIf.nf (by omega) ?_ | refine SChk.d (by omega) ?_ | refine SChk.ix (by omega) (by omega) ?_ | refine SChk.d3 (by omega) (by omega) (by omega) ?_) <;> (conv => whnf)))
  exact congrArg V.b (bxx _)
end
end Go.Eng
