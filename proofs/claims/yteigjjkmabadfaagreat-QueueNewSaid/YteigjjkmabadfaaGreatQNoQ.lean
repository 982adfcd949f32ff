/-
The pod as it waits.
-/
import Derived.Test.YteigjjkmabadfaaGreatFit4
import Derived.Test.YteigjjkmabadfaaGreatFitB5
namespace Go.Eng
open Go
/-- The pod as it waits, of such a Uid. -/
def qD (p : PodD) (u : Int) : PodD := ⟨p.name, u, p.prio, p.req, p.ports, p.labels, p.sel, p.tols, p.topo, p.anti, p.skew, p.even, [], 0⟩
end Go.Eng
