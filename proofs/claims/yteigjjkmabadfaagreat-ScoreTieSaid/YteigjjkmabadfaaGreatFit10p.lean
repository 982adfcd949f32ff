/-
What may be, by the document: that it is told, and that lists that may be are short.
-/
import Derived.Test.YteigjjkmabadfaaGreatFitA
set_option linter.unusedVariables false
set_option linter.unusedSimpArgs false
namespace Go.Eng
open Go
/-- Some bool is told; where it is true so is this. -/
def TellsB (φ : Prop) (u : V) : Prop := ∃ r : Bool, u = .b r ∧ (r = true → φ)
theorem Pure.any {P : Program} {f : Nat} {args : List V} {φ : Prop} (h0 : Pure P f args (TellsB φ)) (ha : args.all V.free1 = true) {h : Heap} {K : V → Heap → Prop} (hK : ∀ r : Bool, (r = true → φ) → K (.b r) h) : ACall P f args h K :=
  h0.use (all_free ha) fun _ _ ⟨r, hu, hr⟩ => hu ▸ hK r hr
/-- Of a length that a string can have. -/
def PairD.sok (p : PairD) : Prop := LenOk p.key ∧ LenOk p.val
def TermD.sok (t : TermD) : Prop := LenOk t.key ∧ ∀ v ∈ t.vals, LenOk v
def TolD.sok (t : TolD) : Prop := LenOk t.key ∧ LenOk t.val
structure PodD.sok (p : PodD) : Prop where
  name : LenOk p.name
  topo : LenOk p.topo
  node : LenOk p.node
  labels : ∀ x ∈ p.labels, x.sok
  sel : ∀ x ∈ p.sel, x.sok
  tols : ∀ x ∈ p.tols, x.sok
  anti : ∀ x ∈ p.anti, x.sok
  even : ∀ x ∈ p.even, x.sok
structure NodeD.sok (n : NodeD) : Prop where
  name : LenOk n.name
  labels : ∀ x ∈ n.labels, x.sok
  taints : ∀ x ∈ n.taints, x.sok
section
variable {P : Program} (hG : FnsOk P AF.fns.get)
include hG
set_option maxHeartbeats 1000000 in
theorem rname_ok (s : Str) (hs : s.length ≤ 9223372036854775807) : Pure P 7 [.s s] (TellsB (1 ≤ s.length ∧ s.length ≤ 12)) := by
  refine pure_fn (hG _ AF.f7 rfl) rfl ?_
  ((conv => whnf); repeat ((first | refine yf rfl ?_ | refine yt rfl ?_ | refine yo rfl ?_ | refine yc rfl ?_ | refine ys rfl ?_ | refine ye rfl ?_ | refine yn rfl ?_ | refine zw ?_ | refine zdt ?_ | refine zdf ?_ | refine znt ?_ | refine znf ?_ | refine zcd ?_ | refine zci ?_ | refine zc3 ?_) <;> (conv => whnf)))
  refine SLoopZ.by (fun q fr st => ∃ i : Nat, i ≤ s.length ∧ q = s.length - i ∧ fr = [(3, .i .i64 i), (0, .s s)] ∧ st = gst noG)
    s.length ⟨_, _, ?_, 0, Nat.zero_le _, rfl, rfl, rfl⟩ ?_
  · exact tL0
  rintro q fr st ⟨i, hi, rfl, rfl, rfl⟩ R hR
  (conv => whnf)
  refine SIf.ds (fun hlt => ?_) (fun hge => ?_)
  · have hi' : i < s.length := by omega
    have he : s[((i : Nat) : Int).toNat]? = some s[i] := by rw [Int.toNat_natCast]; exact List.getElem?_eq_getElem hi'
    generalize s[i] = e at he
    ((conv => whnf); repeat' ((first | refine SEx.of (he) ?_ | refine yf rfl ?_ | refine yt rfl ?_ | refine yo rfl ?_ | refine yc rfl ?_ | refine ys rfl ?_ | refine ye rfl ?_ | refine yn rfl ?_ | refine zw ?_ | refine zdt ?_ | refine zdf ?_ | refine znt ?_ | refine znf ?_ | refine zcd ?_ | refine zci ?_ | refine zc3 ?_ | refine SIf.ds (fun _ => ?_) (fun _ => ?_) | refine SIf.ns (fun _ => ?_) (fun _ => ?_) | refine SIf.mk (fun _ => ?_) (fun _ => ?_) | (intro r hr; cases r)) <;> (conv => whnf)))
    all_goals first
      | exact pure_free rfl ⟨false, rfl, fun h => by cases h⟩
      | (refine hR (s.length - (i + 1)) _ _ (by omega) ⟨_, _, ?_, i + 1, by omega, rfl, rfl, rfl⟩; exact tL0)
  · ((conv => whnf); repeat' ((first | refine yf rfl ?_ | refine yt rfl ?_ | refine yo rfl ?_ | refine yc rfl ?_ | refine ys rfl ?_ | refine ye rfl ?_ | refine yn rfl ?_ | refine zw ?_ | refine zdt ?_ | refine zdf ?_ | refine znt ?_ | refine znf ?_ | refine zcd ?_ | refine zci ?_ | refine zc3 ?_ | refine SIf.ds (fun _ => ?_) (fun _ => ?_) | refine SIf.ns (fun _ => ?_) (fun _ => ?_) | refine SIf.mk (fun _ => ?_) (fun _ => ?_) | (intro r hr; cases r)) <;> (conv => whnf)))
    all_goals exact pure_free rfl ⟨_, rfl, fun h => by first | (cases h; done) | (simp at h; exact ⟨by omega, by omega⟩)⟩
end
end Go.Eng
