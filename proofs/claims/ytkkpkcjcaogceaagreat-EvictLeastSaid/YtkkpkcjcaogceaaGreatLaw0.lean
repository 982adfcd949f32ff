/-
What the laws of chapter 18 share.
-/
import Derived.Test.YtkkpkcjcaogceaaGreatFit13
import Derived.Test.YtkkpkcjcaogceaaGreatArgsD
namespace Go.Eng
open Go
theorem CutOf.ok {s w : StD} (h : CutOf s w) (ha : s.arg) : w.ok := by
  have h1 := h.nodes.len
  have h2 := h.plen
  refine ⟨by unfold LenOk; omega, by unfold LenOk; omega, fun n hn => (ha.node n (h.nodes.sub n hn).1).1.toOk, fun p hp => (ha.pod p (h.psub p hp)).1, by omega⟩
theorem StD.arg.cut {s : StD} (h : s.arg) {P : Program} (hG : FnsOk P AF.fns.get) : Pure P 10 [stV s] (fun u => ∃ w, u = stV w ∧ CutOf s w) :=
  cut_ok hG s h.nodes h.pods (fun n hn => ⟨(h.node n hn).1.toOk, (h.node n hn).2⟩) (fun p hp => ⟨(h.pod p hp).1.toOk, (h.pod p hp).2⟩)
end Go.Eng
