/-
Who is on a node; no port is had twice; a state is whole.
-/
import Derived.Test.YtcmknonnlnobnaaGreatFitG
import Derived.Test.YtcmknonnlnobnaaGreatSta1
import Derived.Test.YtcmknonnlnobnaaGreatFitB5
import Derived.Test.YtcmknonnlnobnaaGreatFitD
set_option linter.unusedVariables false
set_option linter.unusedSimpArgs false
namespace Go.Eng
open Go
theorem PodMay.room {p : PodD} (h : PodMay p) : PodRoom p :=
 ⟨by have := h.ports; omega, by have := h.labels; omega, by have := h.tols; omega, ⟨by have := h.sel.len; omega, fun t ht => by have := h.sel.each t ht; omega⟩, ⟨by have := h.anti.len; omega, fun t ht => by have := h.anti.each t ht; omega⟩,
  ⟨by have := h.even.len; omega, fun t ht => by have := h.even.each t ht; omega⟩⟩
section
variable {P : Program} (hG : FnsOk P AF.fns.get)
include hG
end
end Go.Eng
/-
How names are compared; where a pod may go.
-/
namespace Go.Eng
open Go
abbrev CmpOk (P : Program) : Prop := ∀ (a b : Str) (h : Heap) (K : V → Heap → Prop), K (.i .i64 (cmpB a b)) h → ACall P 117 [.s a, .s b] h K
section
variable {P : Program} (hG : FnsOk P AF.fns.get)
include hG
theorem compare_ok (hcmp : CmpOk P) (a b : Str) : Pure P 47 [.s a, .s b] (· = .i .i64 (cmpB a b)) := by
 refine pure_fn (hG _ AF.f47 rfl) rfl ?_
 ((conv => whnf); repeat ((first | refine cA (hcmp _ _ _ _) ?_ | refine zz ?_) <;> (conv => whnf)))
 exact pure_free rfl rfl
end
end Go.Eng
