/-
What is told of lengths.
-/
import Derived.Test.YtcmknonnlnobnaaGreatFitA
set_option linter.unusedVariables false
set_option linter.unusedSimpArgs false
set_option maxHeartbeats 4000000
namespace Go.Eng
open Go
def TellsB (φ : Prop) (u : V) : Prop := ∃ r : Bool, u = .b r ∧ (r = true → φ)
theorem Pure.any {P : Program} {f : Nat} {args : List V} {φ : Prop} (h0 : Pure P f args (TellsB φ)) (ha : args.all V.free1 = true) {h : Heap} {K : V → Heap → Prop} (hK : ∀ r : Bool, (r = true → φ) → K (.b r) h) : ACall P f args h K :=
 h0.use (all_free ha) fun _ _ ⟨r, hu, hr⟩ => hu ▸ hK r hr
def PairD.sok (p : PairD) : Prop := LenOk p.key ∧ LenOk p.val
def TermD.sok (t : TermD) : Prop := LenOk t.key ∧ ∀ v ∈ t.vals, LenOk v
def TolD.sok (t : TolD) : Prop := LenOk t.key ∧ LenOk t.val
structure PodD.sok (p : PodD) : Prop where
 name : LenOk p.name
 topo : LenOk p.topo
 node : LenOk p.node
 labels : ∀ x ∈ p.labels, x.sok
 sel : ∀ x ∈ p.sel, x.sok
 tols : ∀ x ∈ p.tols, x.sok
 anti : ∀ x ∈ p.anti, x.sok
 even : ∀ x ∈ p.even, x.sok
structure NodeD.sok (n : NodeD) : Prop where
 name : LenOk n.name
 labels : ∀ x ∈ n.labels, x.sok
 taints : ∀ x ∈ n.taints, x.sok
end Go.Eng
/-
A name, by the document: that it is told.
-/
namespace Go.Eng
open Go
section
variable {P : Program} (hG : FnsOk P AF.fns.get)
include hG
theorem rname_ok (s : Str) (hs : s.length ≤ 9223372036854775807) : Pure P 63 [.s s] (TellsB (1 ≤ s.length ∧ s.length ≤ 12)) := by
 refine pure_fn (hG _ AF.f63 rfl) rfl ?_
 ((conv => whnf); repeat ((first | refine zz ?_) <;> (conv => whnf)))
 refine SLoopZ.by (fun q fr st => ∃ i : Nat, i ≤ s.length ∧ q = s.length - i ∧ fr = [(3, .i .i64 i), (0, .s s)] ∧ st = gst noG)
  s.length ⟨_, _, ?_, 0, Nat.zero_le _, rfl, rfl, rfl⟩ ?_
 · exact tL0
 rintro q fr st ⟨i, hi, rfl, rfl, rfl⟩ R hR
 (conv => whnf)
 refine SIf.ds (fun hlt => ?_) (fun hge => ?_)
 · have hi' : i < s.length := by omega
   have he : s[((i : Nat) : Int).toNat]? = some s[i] := by rw [Int.toNat_natCast]; exact gE hi'
   generalize s[i] = e at he
   ((conv => whnf); repeat' ((first | refine ye (he) ?_ | refine zz ?_ | refine SIf.ds (fun _ => ?_) (fun _ => ?_) | refine SIf.ns (fun _ => ?_) (fun _ => ?_) | refine SIf.mk (fun _ => ?_) (fun _ => ?_) | (intro r hr; cases r)) <;> (conv => whnf)))
   all_goals first
    | exact pure_free rfl ⟨false, rfl, fun h => by cases h⟩
    | (refine hR (s.length - (i + 1)) _ _ (by omega) ⟨_, _, ?_, i + 1, by omega, rfl, rfl, rfl⟩; exact tL0)
 · ((conv => whnf); repeat' ((first | refine zz ?_ | refine SIf.ds (fun _ => ?_) (fun _ => ?_) | refine SIf.ns (fun _ => ?_) (fun _ => ?_) | refine SIf.mk (fun _ => ?_) (fun _ => ?_) | (intro r hr; cases r)) <;> (conv => whnf)))
   all_goals exact pure_free rfl ⟨_, rfl, fun h => by first | (cases h; done) | (simp at h; exact ⟨by omega, by omega⟩)⟩
end
end Go.Eng
/-
What may be, by the document: amounts, pairs.
-/
namespace Go.Eng
open Go
structure ResMay (r : ResD) : Prop where
 a : 0 ≤ r.a ∧ r.a ≤ 1000000000
 b : 0 ≤ r.b ∧ r.b ≤ 1000000000
 c : 0 ≤ r.c ∧ r.c ≤ 1000000000
section
variable {P : Program} (hG : FnsOk P AF.fns.get)
include hG
theorem rmay_ok (r : ResD) : Pure P 64 [resV r] (TellsB (ResMay r)) := by
 refine pure_fn (hG _ AF.f64 rfl) rfl ?_
 ((conv => whnf); repeat' ((first | refine zz ?_ | refine SLoopZ.un rfl ?_ | refine SIf.ds (fun _ => ?_) (fun _ => ?_) | refine SIf.ns (fun _ => ?_) (fun _ => ?_) | refine SIf.mk (fun _ => ?_) (fun _ => ?_) | (intro r hr; cases r)) <;> (conv => whnf)))
 all_goals exact pure_free rfl ⟨_, rfl, fun h => by first | (cases h; done) | exact ⟨by omega, by omega, by omega⟩⟩
theorem rpairs_ok (l : List PairD) (hl : LenOk l) (hs : ∀ x ∈ l, x.sok) : Pure P 65 [.sl none 2 (l.map pairR)] (TellsB (l.length ≤ 6)) := by
 have hlm : (l.map pairR).length = l.length := List.length_map _
 unfold LenOk at hl
 refine pure_fn (hG _ AF.f65 rfl) rfl ?_
 ((conv => whnf); repeat ((first | refine zz ?_) <;> (conv => whnf)))
 refine SLoopZ.by (fun q fr st => ∃ i : Nat, i ≤ l.length ∧ q = l.length - i ∧ fr = [(6, .i .i64 i), (5, .i .i64 (l.map pairR).length), (0, .sl none 2 (l.map pairR))] ∧ st = gst noG)
  l.length ⟨_, _, ?_, 0, Nat.zero_le _, rfl, rfl, rfl⟩ ?_
 · exact tL0
 rintro q fr st ⟨i, hi, rfl, rfl, rfl⟩ R hR
 (conv => whnf)
 refine SIf.ds (fun hlt => ?_) (fun hge => ?_)
 · have hi' : i < l.length := by omega
   have he := gE hi'
   have hm := hs _ (List.getElem_mem hi')
   generalize l[i] = e at he hm
   rcases Nat.eq_zero_or_pos i with h0 | h0
   · ((conv => whnf); repeat' ((first | refine cA (Pure.any (rname_ok hG _ hm.1) rfl) ?_ | refine cA (Pure.any (rname_ok hG _ hm.2) rfl) ?_ | refine ye (map_get' (by simp) he) ?_ | refine zz ?_ | refine SIf.ds (fun _ => ?_) (fun _ => ?_) | refine SIf.ns (fun _ => ?_) (fun _ => ?_) | refine SIf.mk (fun _ => ?_) (fun _ => ?_) | (intro r hr; cases r)) <;> (conv => whnf)))
     all_goals first
       | exact pure_free rfl ⟨false, rfl, fun h => by cases h⟩
       | (refine hR (l.length - (i + 1)) _ _ (by omega) ⟨_, _, ?_, i + 1, by omega, rfl, rfl, rfl⟩; exact tL0)
   · have hi2 : i - 1 < l.length := by omega
     have hf := gE hi2
     generalize l[i - 1] = f at hf
     ((conv => whnf); repeat' ((first | refine cA (Pure.any (rname_ok hG _ hm.1) rfl) ?_ | refine cA (Pure.any (rname_ok hG _ hm.2) rfl) ?_ | refine ye (map_get' (by omega) he) ?_ | refine ye (map_get' (by omega) hf) ?_ | refine zz ?_ | refine SIf.ds (fun _ => ?_) (fun _ => ?_) | refine SIf.ns (fun _ => ?_) (fun _ => ?_) | refine SIf.mk (fun _ => ?_) (fun _ => ?_) | (intro r hr; cases r)) <;> (conv => whnf)))
     all_goals first
      | exact pure_free rfl ⟨false, rfl, fun h => by cases h⟩
      | (refine hR (l.length - (i + 1)) _ _ (by omega) ⟨_, _, ?_, i + 1, by omega, rfl, rfl, rfl⟩; exact tL0)
 · ((conv => whnf); repeat' ((first | refine zz ?_ | refine SIf.ds (fun _ => ?_) (fun _ => ?_) | refine SIf.ns (fun _ => ?_) (fun _ => ?_) | refine SIf.mk (fun _ => ?_) (fun _ => ?_) | (intro r hr; cases r)) <;> (conv => whnf)))
   all_goals exact pure_free rfl ⟨_, rfl, fun h => by simp at h; omega⟩
end
end Go.Eng
