/-
What is told of lengths.
-/
import Derived.Test.YtllgfkpmblhbmaaGreatFitA
set_option linter.unusedVariables false
set_option linter.unusedSimpArgs false
namespace Go.Eng
open Go
/-- Some bool is told; where it is true so is this. -/
def TellsB (φ : Prop) (u : V) : Prop := ∃ r : Bool, u = .b r ∧ (r = true → φ)
theorem Pure.any {P : Program} {f : Nat} {args : List V} {φ : Prop} (h0 : Pure P f args (TellsB φ)) (ha : args.all V.free1 = true) {h : Heap} {K : V → Heap → Prop} (hK : ∀ r : Bool, (r = true → φ) → K (.b r) h) : ACall P f args h K :=
  h0.use (all_free ha) fun _ _ ⟨r, hu, hr⟩ => hu ▸ hK r hr
/-- Of a length that a string can have. -/
def PairD.sok (p : PairD) : Prop := LenOk p.key ∧ LenOk p.val
def TermD.sok (t : TermD) : Prop := LenOk t.key ∧ ∀ v ∈ t.vals, LenOk v
def TolD.sok (t : TolD) : Prop := LenOk t.key ∧ LenOk t.val
structure PodD.sok (p : PodD) : Prop where
  name : LenOk p.name
  topo : LenOk p.topo
  node : LenOk p.node
  labels : ∀ x ∈ p.labels, x.sok
  sel : ∀ x ∈ p.sel, x.sok
  tols : ∀ x ∈ p.tols, x.sok
  anti : ∀ x ∈ p.anti, x.sok
  even : ∀ x ∈ p.even, x.sok
structure NodeD.sok (n : NodeD) : Prop where
  name : LenOk n.name
  labels : ∀ x ∈ n.labels, x.sok
  taints : ∀ x ∈ n.taints, x.sok
end Go.Eng
