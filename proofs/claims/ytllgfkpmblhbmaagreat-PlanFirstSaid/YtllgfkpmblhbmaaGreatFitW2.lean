/-
Who is on a node; no port is had twice; a state is whole.
-/
import Derived.Test.YtllgfkpmblhbmaaGreatFitG
import Derived.Test.YtllgfkpmblhbmaaGreatSta1
import Derived.Test.YtllgfkpmblhbmaaGreatFitB
import Derived.Test.YtllgfkpmblhbmaaGreatFitD
set_option linter.unusedVariables false
set_option linter.unusedSimpArgs false
namespace Go.Eng
open Go
theorem PodMay.room {p : PodD} (h : PodMay p) : PodRoom p :=
  ⟨by have := h.ports; omega, by have := h.labels; omega, by have := h.tols; omega, ⟨by have := h.sel.len; omega, fun t ht => by have := h.sel.each t ht; omega⟩, ⟨by have := h.anti.len; omega, fun t ht => by have := h.anti.each t ht; omega⟩,
    ⟨by have := h.even.len; omega, fun t ht => by have := h.even.each t ht; omega⟩⟩
section
variable {P : Program} (hG : FnsOk P AF.fns.get)
include hG
end
end Go.Eng
