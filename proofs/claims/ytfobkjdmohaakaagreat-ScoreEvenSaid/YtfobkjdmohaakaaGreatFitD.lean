/-
What may be, by the document: that it is told, and that lists that may be are short.
-/
import Derived.Test.YtfobkjdmohaakaaGreatFitA
set_option linter.unusedVariables false
set_option linter.unusedSimpArgs false
namespace Go.Eng
open Go
/-- Some bool is told; where it is true so is this. -/
def TellsB (φ : Prop) (u : V) : Prop := ∃ r : Bool, u = .b r ∧ (r = true → φ)
theorem Pure.any {P : Program} {f : Nat} {args : List V} {φ : Prop} (h0 : Pure P f args (TellsB φ)) (ha : args.all V.free1 = true) {h : Heap} {K : V → Heap → Prop} (hK : ∀ r : Bool, (r = true → φ) → K (.b r) h) : ACall P f args h K :=
  h0.use (all_free ha) fun _ _ ⟨r, hu, hr⟩ => hu ▸ hK r hr
/-- Of a length that a string can have. -/
def PairD.sok (p : PairD) : Prop := LenOk p.key ∧ LenOk p.val
def TermD.sok (t : TermD) : Prop := LenOk t.key ∧ ∀ v ∈ t.vals, LenOk v
def TolD.sok (t : TolD) : Prop := LenOk t.key ∧ LenOk t.val
structure PodD.sok (p : PodD) : Prop where
  name : LenOk p.name
  topo : LenOk p.topo
  node : LenOk p.node
  labels : ∀ x ∈ p.labels, x.sok
  sel : ∀ x ∈ p.sel, x.sok
  tols : ∀ x ∈ p.tols, x.sok
  anti : ∀ x ∈ p.anti, x.sok
  even : ∀ x ∈ p.even, x.sok
structure NodeD.sok (n : NodeD) : Prop where
  name : LenOk n.name
  labels : ∀ x ∈ n.labels, x.sok
  taints : ∀ x ∈ n.taints, x.sok
section
variable {P : Program} (hG : FnsOk P AF.fns.get)
include hG
set_option maxHeartbeats 1000000 in
theorem rname_ok (s : Str) (hs : s.length ≤ 9223372036854775807) : Pure P 159 [.s s] (TellsB (s.length ≤ 12)) := by
  refine pure_fn (hG _ AF.f159 rfl) rfl ?_
  ((conv => whnf); repeat ((first | refine SIf.ff rfl ?_ | refine SIf.tt rfl ?_ | refine SOpt.of rfl ?_ | refine SChk.mk rfl ?_ | refine SSame.mk rfl ?_ | refine SEx.of rfl ?_ | refine SOpt.no rfl ?_ | refine SWrap.w64 (by omega) (by omega) ?_ | refine SIf.dt (by omega) ?_ | refine SIf.df (by omega) ?_ | refine SIf.nt (by omega) ?_ | refine SIf.nf (by omega) ?_ | refine SChk.d (by omega) ?_ | refine SChk.ix (by omega) (by omega) ?_ | refine SChk.d3 (by omega) (by omega) (by omega) ?_) <;> (conv => whnf)))
  refine SLoopZ.by (fun q fr st => ∃ i : Nat, i ≤ s.length ∧ q = s.length - i ∧ fr = [(3, .i .i64 i), (0, .s s)] ∧ st = gst noG)
    s.length ⟨_, _, ?_, 0, Nat.zero_le _, rfl, rfl, rfl⟩ ?_
  · exact tel0 (by repeat (first | exact FrC.nil | refine FrC.cons (by first | exact ce2_free rfl | exact ce2_untok | exact ce2_nil) ?_))
  rintro q fr st ⟨i, hi, rfl, rfl, rfl⟩ R hR
  (conv => whnf)
  refine SIf.ds (fun hlt => ?_) (fun hge => ?_)
  · have hi' : i < s.length := by omega
    have he : s[((i : Nat) : Int).toNat]? = some s[i] := by rw [Int.toNat_natCast]; exact List.getElem?_eq_getElem hi'
    generalize s[i] = e at he
    ((conv => whnf); repeat' ((first | refine SEx.of (he) ?_ | refine SIf.ff rfl ?_ | refine SIf.tt rfl ?_ | refine SOpt.of rfl ?_ | refine SChk.mk rfl ?_ | refine SSame.mk rfl ?_ | refine SEx.of rfl ?_ | refine SOpt.no rfl ?_ | refine SWrap.w64 (by omega) (by omega) ?_ | refine SIf.dt (by omega) ?_ | refine SIf.df (by omega) ?_ | refine SIf.nt (by omega) ?_ | refine SIf.nf (by omega) ?_ | refine SChk.d (by omega) ?_ | refine SChk.ix (by omega) (by omega) ?_ | refine SChk.d3 (by omega) (by omega) (by omega) ?_ | refine SIf.ds (fun _ => ?_) (fun _ => ?_) | refine SIf.ns (fun _ => ?_) (fun _ => ?_) | refine SIf.mk (fun _ => ?_) (fun _ => ?_) | (intro r hr; cases r)) <;> (conv => whnf)))
    all_goals first
      | exact pure_free rfl ⟨false, rfl, fun h => by cases h⟩
      | (refine hR (s.length - (i + 1)) _ _ (by omega) ⟨_, _, ?_, i + 1, by omega, rfl, rfl, rfl⟩; exact tel0 (by repeat (first | exact FrC.nil | refine FrC.cons (by first | exact ce2_free rfl | exact ce2_untok | exact ce2_nil) ?_)))
  · ((conv => whnf); repeat' ((first | refine SIf.ff rfl ?_ | refine SIf.tt rfl ?_ | refine SOpt.of rfl ?_ | refine SChk.mk rfl ?_ | refine SSame.mk rfl ?_ | refine SEx.of rfl ?_ | refine SOpt.no rfl ?_ | refine SWrap.w64 (by omega) (by omega) ?_ | refine SIf.dt (by omega) ?_ | refine SIf.df (by omega) ?_ | refine SIf.nt (by omega) ?_ | refine SIf.nf (by omega) ?_ | refine SChk.d (by omega) ?_ | refine SChk.ix (by omega) (by omega) ?_ | refine SChk.d3 (by omega) (by omega) (by omega) ?_ | refine SIf.ds (fun _ => ?_) (fun _ => ?_) | refine SIf.ns (fun _ => ?_) (fun _ => ?_) | refine SIf.mk (fun _ => ?_) (fun _ => ?_) | (intro r hr; cases r)) <;> (conv => whnf)))
    all_goals exact pure_free rfl ⟨_, rfl, fun h => by first | (cases h; done) | (simp at h; omega)⟩
theorem rmay_ok (r : ResD) : Pure P 160 [resV r] (TellsB True) := by
  refine pure_fn (hG _ AF.f160 rfl) rfl ?_
  ((conv => whnf); repeat' ((first | refine SIf.ff rfl ?_ | refine SIf.tt rfl ?_ | refine SOpt.of rfl ?_ | refine SChk.mk rfl ?_ | refine SSame.mk rfl ?_ | refine SEx.of rfl ?_ | refine SOpt.no rfl ?_ | refine SWrap.w64 (by omega) (by omega) ?_ | refine SIf.dt (by omega) ?_ | refine SIf.df (by omega) ?_ | refine SIf.nt (by omega) ?_ | refine SIf.nf (by omega) ?_ | refine SChk.d (by omega) ?_ | refine SChk.ix (by omega) (by omega) ?_ | refine SChk.d3 (by omega) (by omega) (by omega) ?_ | refine SLoopZ.un rfl ?_ | refine SIf.ds (fun _ => ?_) (fun _ => ?_) | refine SIf.ns (fun _ => ?_) (fun _ => ?_) | refine SIf.mk (fun _ => ?_) (fun _ => ?_) | (intro r hr; cases r)) <;> (conv => whnf)))
  all_goals exact pure_free rfl ⟨_, rfl, fun _ => trivial⟩
set_option maxHeartbeats 2000000 in
theorem rpairs_ok (l : List PairD) (hl : LenOk l) (hs : ∀ x ∈ l, x.sok) : Pure P 161 [.sl none 2 (l.map pairR)] (TellsB (l.length ≤ 6)) := by
  have hlm : (l.map pairR).length = l.length := List.length_map _
  unfold LenOk at hl
  refine pure_fn (hG _ AF.f161 rfl) rfl ?_
  ((conv => whnf); repeat ((first | refine SIf.ff rfl ?_ | refine SIf.tt rfl ?_ | refine SOpt.of rfl ?_ | refine SChk.mk rfl ?_ | refine SSame.mk rfl ?_ | refine SEx.of rfl ?_ | refine SOpt.no rfl ?_ | refine SWrap.w64 (by omega) (by omega) ?_ | refine SIf.dt (by omega) ?_ | refine SIf.df (by omega) ?_ | refine SIf.nt (by omega) ?_ | refine SIf.nf (by omega) ?_ | refine SChk.d (by omega) ?_ | refine SChk.ix (by omega) (by omega) ?_ | refine SChk.d3 (by omega) (by omega) (by omega) ?_) <;> (conv => whnf)))
  refine SLoopZ.by (fun q fr st => ∃ i : Nat, i ≤ l.length ∧ q = l.length - i ∧ fr = [(6, .i .i64 i), (5, .i .i64 (l.map pairR).length), (0, .sl none 2 (l.map pairR))] ∧ st = gst noG)
    l.length ⟨_, _, ?_, 0, Nat.zero_le _, rfl, rfl, rfl⟩ ?_
  · exact tel0 (by repeat (first | exact FrC.nil | refine FrC.cons (by first | exact ce2_free rfl | exact ce2_untok | exact ce2_nil) ?_))
  rintro q fr st ⟨i, hi, rfl, rfl, rfl⟩ R hR
  (conv => whnf)
  refine SIf.ds (fun hlt => ?_) (fun hge => ?_)
  · have hi' : i < l.length := by omega
    have he := List.getElem?_eq_getElem hi'
    have hm := hs _ (List.getElem_mem hi')
    generalize l[i] = e at he hm
    rcases Nat.eq_zero_or_pos i with h0 | h0
    · ((conv => whnf); repeat' ((first | refine SCall.app (Pure.any (rname_ok hG _ hm.1) rfl) ?_ | refine SCall.app (Pure.any (rname_ok hG _ hm.2) rfl) ?_ | refine SEx.of (map_get' (by simp) he) ?_ | refine SIf.ff rfl ?_ | refine SIf.tt rfl ?_ | refine SOpt.of rfl ?_ | refine SChk.mk rfl ?_ | refine SSame.mk rfl ?_ | refine SEx.of rfl ?_ | refine SOpt.no rfl ?_ | refine SWrap.w64 (by omega) (by omega) ?_ | refine SIf.dt (by omega) ?_ | refine SIf.df (by omega) ?_ | refine SIf.nt (by omega) ?_ | refine SIf.nf (by omega) ?_ | refine SChk.d (by omega) ?_ | refine SChk.ix (by omega) (by omega) ?_ | refine SChk.d3 (by omega) (by omega) (by omega) ?_ | refine SIf.ds (fun _ => ?_) (fun _ => ?_) | refine SIf.ns (fun _ => ?_) (fun _ => ?_) | refine SIf.mk (fun _ => ?_) (fun _ => ?_) | (intro r hr; cases r)) <;> (conv => whnf)))
      all_goals first
        | exact pure_free rfl ⟨false, rfl, fun h => by cases h⟩
        | (refine hR (l.length - (i + 1)) _ _ (by omega) ⟨_, _, ?_, i + 1, by omega, rfl, rfl, rfl⟩; exact tel0 (by repeat (first | exact FrC.nil | refine FrC.cons (by first | exact ce2_free rfl | exact ce2_untok | exact ce2_nil) ?_)))
    · have hi2 : i - 1 < l.length := by omega
      have hf := List.getElem?_eq_getElem hi2
      generalize l[i - 1] = f at hf
      ((conv => whnf); repeat' ((first | refine SCall.app (Pure.any (rname_ok hG _ hm.1) rfl) ?_ | refine SCall.app (Pure.any (rname_ok hG _ hm.2) rfl) ?_ | refine SEx.of (map_get' (by omega) he) ?_ | refine SEx.of (map_get' (by omega) hf) ?_ | refine SIf.ff rfl ?_ | refine SIf.tt rfl ?_ | refine SOpt.of rfl ?_ | refine SChk.mk rfl ?_ | refine SSame.mk rfl ?_ | refine SEx.of rfl ?_ | refine SOpt.no rfl ?_ | refine SWrap.w64 (by omega) (by omega) ?_ | refine SIf.dt (by omega) ?_ | refine SIf.df (by omega) ?_ | refine SIf.nt (by omega) ?_ | refine SIf.nf (by omega) ?_ | refine SChk.d (by omega) ?_ | refine SChk.ix (by omega) (by omega) ?_ | refine SChk.d3 (by omega) (by omega) (by omega) ?_ | refine SIf.ds (fun _ => ?_) (fun _ => ?_) | refine SIf.ns (fun _ => ?_) (fun _ => ?_) | refine SIf.mk (fun _ => ?_) (fun _ => ?_) | (intro r hr; cases r)) <;> (conv => whnf)))
      all_goals first
        | exact pure_free rfl ⟨false, rfl, fun h => by cases h⟩
        | (refine hR (l.length - (i + 1)) _ _ (by omega) ⟨_, _, ?_, i + 1, by omega, rfl, rfl, rfl⟩; exact tel0 (by repeat (first | exact FrC.nil | refine FrC.cons (by first | exact ce2_free rfl | exact ce2_untok | exact ce2_nil) ?_)))
  · ((conv => whnf); repeat' ((first | refine SIf.ff rfl ?_ | refine SIf.tt rfl ?_ | refine SOpt.of rfl ?_ | refine SChk.mk rfl ?_ | refine SSame.mk rfl ?_ | refine SEx.of rfl ?_ | refine SOpt.no rfl ?_ | refine SWrap.w64 (by omega) (by omega) ?_ | refine SIf.dt (by omega) ?_ | refine SIf.df (by omega) ?_ | refine SIf.nt (by omega) ?_ | refine SIf.nf (by omega) ?_ | refine SChk.d (by omega) ?_ | refine SChk.ix (by omega) (by omega) ?_ | refine SChk.d3 (by omega) (by omega) (by omega) ?_ | refine SIf.ds (fun _ => ?_) (fun _ => ?_) | refine SIf.ns (fun _ => ?_) (fun _ => ?_) | refine SIf.mk (fun _ => ?_) (fun _ => ?_) | (intro r hr; cases r)) <;> (conv => whnf)))
    all_goals exact pure_free rfl ⟨_, rfl, fun h => by simp at h; omega⟩
set_option maxHeartbeats 2000000 in
theorem rtaints_ok (l : List PairD) (hl : LenOk l) (hs : ∀ x ∈ l, x.sok) : Pure P 162 [.sl none 2 (l.map pairR)] (TellsB (l.length ≤ 6)) := by
  have hlm : (l.map pairR).length = l.length := List.length_map _
  unfold LenOk at hl
  refine pure_fn (hG _ AF.f162 rfl) rfl ?_
  ((conv => whnf); repeat ((first | refine SIf.ff rfl ?_ | refine SIf.tt rfl ?_ | refine SOpt.of rfl ?_ | refine SChk.mk rfl ?_ | refine SSame.mk rfl ?_ | refine SEx.of rfl ?_ | refine SOpt.no rfl ?_ | refine SWrap.w64 (by omega) (by omega) ?_ | refine SIf.dt (by omega) ?_ | refine SIf.df (by omega) ?_ | refine SIf.nt (by omega) ?_ | refine SIf.nf (by omega) ?_ | refine SChk.d (by omega) ?_ | refine SChk.ix (by omega) (by omega) ?_ | refine SChk.d3 (by omega) (by omega) (by omega) ?_) <;> (conv => whnf)))
  refine SLoopZ.by (fun q fr st => ∃ i : Nat, i ≤ l.length ∧ q = l.length - i ∧ fr = [(6, .i .i64 i), (5, .i .i64 (l.map pairR).length), (0, .sl none 2 (l.map pairR))] ∧ st = gst noG)
    l.length ⟨_, _, ?_, 0, Nat.zero_le _, rfl, rfl, rfl⟩ ?_
  · exact tel0 (by repeat (first | exact FrC.nil | refine FrC.cons (by first | exact ce2_free rfl | exact ce2_untok | exact ce2_nil) ?_))
  rintro q fr st ⟨i, hi, rfl, rfl, rfl⟩ R hR
  (conv => whnf)
  refine SIf.ds (fun hlt => ?_) (fun hge => ?_)
  · have hi' : i < l.length := by omega
    have he := List.getElem?_eq_getElem hi'
    have hm := hs _ (List.getElem_mem hi')
    generalize l[i] = e at he hm
    rcases Nat.eq_zero_or_pos i with h0 | h0
    · ((conv => whnf); repeat' ((first | refine SCall.app (Pure.any (rname_ok hG _ hm.1) rfl) ?_ | refine SCall.app (Pure.any (rname_ok hG _ hm.2) rfl) ?_ | refine SEx.of (map_get' (by simp) he) ?_ | refine SIf.ff rfl ?_ | refine SIf.tt rfl ?_ | refine SOpt.of rfl ?_ | refine SChk.mk rfl ?_ | refine SSame.mk rfl ?_ | refine SEx.of rfl ?_ | refine SOpt.no rfl ?_ | refine SWrap.w64 (by omega) (by omega) ?_ | refine SIf.dt (by omega) ?_ | refine SIf.df (by omega) ?_ | refine SIf.nt (by omega) ?_ | refine SIf.nf (by omega) ?_ | refine SChk.d (by omega) ?_ | refine SChk.ix (by omega) (by omega) ?_ | refine SChk.d3 (by omega) (by omega) (by omega) ?_ | refine SIf.ds (fun _ => ?_) (fun _ => ?_) | refine SIf.ns (fun _ => ?_) (fun _ => ?_) | refine SIf.mk (fun _ => ?_) (fun _ => ?_) | (intro r hr; cases r)) <;> (conv => whnf)))
      all_goals first
        | exact pure_free rfl ⟨false, rfl, fun h => by cases h⟩
        | (refine hR (l.length - (i + 1)) _ _ (by omega) ⟨_, _, ?_, i + 1, by omega, rfl, rfl, rfl⟩; exact tel0 (by repeat (first | exact FrC.nil | refine FrC.cons (by first | exact ce2_free rfl | exact ce2_untok | exact ce2_nil) ?_)))
    · have hi2 : i - 1 < l.length := by omega
      have hf := List.getElem?_eq_getElem hi2
      generalize l[i - 1] = f at hf
      ((conv => whnf); repeat' ((first | refine SCall.app (Pure.any (rname_ok hG _ hm.1) rfl) ?_ | refine SCall.app (Pure.any (rname_ok hG _ hm.2) rfl) ?_ | refine SEx.of (map_get' (by omega) he) ?_ | refine SEx.of (map_get' (by omega) hf) ?_ | refine SIf.ff rfl ?_ | refine SIf.tt rfl ?_ | refine SOpt.of rfl ?_ | refine SChk.mk rfl ?_ | refine SSame.mk rfl ?_ | refine SEx.of rfl ?_ | refine SOpt.no rfl ?_ | refine SWrap.w64 (by omega) (by omega) ?_ | refine SIf.dt (by omega) ?_ | refine SIf.df (by omega) ?_ | refine SIf.nt (by omega) ?_ | refine SIf.nf (by omega) ?_ | refine SChk.d (by omega) ?_ | refine SChk.ix (by omega) (by omega) ?_ | refine SChk.d3 (by omega) (by omega) (by omega) ?_ | refine SIf.ds (fun _ => ?_) (fun _ => ?_) | refine SIf.ns (fun _ => ?_) (fun _ => ?_) | refine SIf.mk (fun _ => ?_) (fun _ => ?_) | (intro r hr; cases r)) <;> (conv => whnf)))
      all_goals first
        | exact pure_free rfl ⟨false, rfl, fun h => by cases h⟩
        | (refine hR (l.length - (i + 1)) _ _ (by omega) ⟨_, _, ?_, i + 1, by omega, rfl, rfl, rfl⟩; exact tel0 (by repeat (first | exact FrC.nil | refine FrC.cons (by first | exact ce2_free rfl | exact ce2_untok | exact ce2_nil) ?_)))
  · ((conv => whnf); repeat' ((first | refine SIf.ff rfl ?_ | refine SIf.tt rfl ?_ | refine SOpt.of rfl ?_ | refine SChk.mk rfl ?_ | refine SSame.mk rfl ?_ | refine SEx.of rfl ?_ | refine SOpt.no rfl ?_ | refine SWrap.w64 (by omega) (by omega) ?_ | refine SIf.dt (by omega) ?_ | refine SIf.df (by omega) ?_ | refine SIf.nt (by omega) ?_ | refine SIf.nf (by omega) ?_ | refine SChk.d (by omega) ?_ | refine SChk.ix (by omega) (by omega) ?_ | refine SChk.d3 (by omega) (by omega) (by omega) ?_ | refine SIf.ds (fun _ => ?_) (fun _ => ?_) | refine SIf.ns (fun _ => ?_) (fun _ => ?_) | refine SIf.mk (fun _ => ?_) (fun _ => ?_) | (intro r hr; cases r)) <;> (conv => whnf)))
    all_goals exact pure_free rfl ⟨_, rfl, fun h => by simp at h; omega⟩
/-- No name. -/
def noneS : Str := [78, 79, 78, 69]
theorem rnone_ok : Pure P 159 [.s noneS] (· = .b false) := by
  refine pure_fn (hG _ AF.f159 rfl) rfl ?_
  ((conv => whnf); repeat ((first | refine SIf.ff rfl ?_ | refine SIf.tt rfl ?_ | refine SOpt.of rfl ?_ | refine SChk.mk rfl ?_ | refine SSame.mk rfl ?_ | refine SEx.of rfl ?_ | refine SOpt.no rfl ?_ | refine SWrap.w64 (by omega) (by omega) ?_ | refine SIf.dt (by omega) ?_ | refine SIf.df (by omega) ?_ | refine SIf.nt (by omega) ?_ | refine SIf.nf (by omega) ?_ | refine SChk.d (by omega) ?_ | refine SChk.ix (by omega) (by omega) ?_ | refine SChk.d3 (by omega) (by omega) (by omega) ?_ | refine SLoopZ.un rfl ?_) <;> (conv => whnf)))
  exact pure_free rfl rfl
theorem rnode_ok (n : NodeD) (hn : n.ok) (hs : n.sok) : Pure P 86 [.agg (nodeR n)] (TellsB (n.labels.length ≤ 6 ∧ n.taints.length ≤ 6 ∧ n.name ≠ noneS)) := by
  refine pure_fn (hG _ AF.f86 rfl) rfl ?_
  by_cases hno : n.name = noneS
  · have h0 := rnone_ok hG
    rw [← hno] at h0
    ((conv => whnf); repeat' ((first | refine SCall.app (Pure.go h0 rfl) ?_ | refine SIf.ff rfl ?_ | refine SIf.tt rfl ?_ | refine SOpt.of rfl ?_ | refine SChk.mk rfl ?_ | refine SSame.mk rfl ?_ | refine SEx.of rfl ?_ | refine SOpt.no rfl ?_ | refine SWrap.w64 (by omega) (by omega) ?_ | refine SIf.dt (by omega) ?_ | refine SIf.df (by omega) ?_ | refine SIf.nt (by omega) ?_ | refine SIf.nf (by omega) ?_ | refine SChk.d (by omega) ?_ | refine SChk.ix (by omega) (by omega) ?_ | refine SChk.d3 (by omega) (by omega) (by omega) ?_ | refine SIf.ds (fun _ => ?_) (fun _ => ?_) | refine SIf.ns (fun _ => ?_) (fun _ => ?_) | refine SIf.mk (fun _ => ?_) (fun _ => ?_) | (intro r hr; cases r)) <;> (conv => whnf)))
    all_goals exact pure_free rfl ⟨_, rfl, fun h => by simp_all⟩
  ((conv => whnf); repeat' ((first | refine SCall.app (Pure.any (rname_ok hG _ hs.name) rfl) ?_ | refine SCall.app (Pure.any (rmay_ok hG n.cap) rfl) ?_ | refine SCall.app (Pure.any (rpairs_ok hG _ hn.labels hs.labels) rfl) ?_ | refine SCall.app (Pure.any (rtaints_ok hG _ hn.taints hs.taints) rfl) ?_ | refine SIf.ff rfl ?_ | refine SIf.tt rfl ?_ | refine SOpt.of rfl ?_ | refine SChk.mk rfl ?_ | refine SSame.mk rfl ?_ | refine SEx.of rfl ?_ | refine SOpt.no rfl ?_ | refine SWrap.w64 (by omega) (by omega) ?_ | refine SIf.dt (by omega) ?_ | refine SIf.df (by omega) ?_ | refine SIf.nt (by omega) ?_ | refine SIf.nf (by omega) ?_ | refine SChk.d (by omega) ?_ | refine SChk.ix (by omega) (by omega) ?_ | refine SChk.d3 (by omega) (by omega) (by omega) ?_ | refine SIf.ds (fun _ => ?_) (fun _ => ?_) | refine SIf.ns (fun _ => ?_) (fun _ => ?_) | refine SIf.mk (fun _ => ?_) (fun _ => ?_) | (intro r hr; cases r)) <;> (conv => whnf)))
  all_goals exact pure_free rfl ⟨_, rfl, fun h => by simp_all⟩
end
end Go.Eng
/-
What may be, by the document: terms, tolerations, pods.
-/
namespace Go.Eng
open Go
section
variable {P : Program} (hG : FnsOk P AF.fns.get)
include hG
set_option maxHeartbeats 4000000 in
theorem rtols_ok (l : List TolD) (hl : LenOk l) (hs : ∀ x ∈ l, x.sok) : Pure P 164 [.sl none 3 (l.map tolR)] (TellsB True) := by
  have hlm : (l.map tolR).length = l.length := List.length_map _
  unfold LenOk at hl
  refine pure_fn (hG _ AF.f164 rfl) rfl ?_
  ((conv => whnf); repeat ((first | refine SIf.ff rfl ?_ | refine SIf.tt rfl ?_ | refine SOpt.of rfl ?_ | refine SChk.mk rfl ?_ | refine SSame.mk rfl ?_ | refine SEx.of rfl ?_ | refine SOpt.no rfl ?_ | refine SWrap.w64 (by omega) (by omega) ?_ | refine SIf.dt (by omega) ?_ | refine SIf.df (by omega) ?_ | refine SIf.nt (by omega) ?_ | refine SIf.nf (by omega) ?_ | refine SChk.d (by omega) ?_ | refine SChk.ix (by omega) (by omega) ?_ | refine SChk.d3 (by omega) (by omega) (by omega) ?_) <;> (conv => whnf)))
  refine SLoopZ.by (fun q fr st => ∃ i : Nat, i ≤ l.length ∧ q = l.length - i ∧ fr = [(7, .i .i64 i), (6, .i .i64 (l.map tolR).length), (0, .sl none 3 (l.map tolR))] ∧ st = gst noG)
    l.length ⟨_, _, ?_, 0, Nat.zero_le _, rfl, rfl, rfl⟩ ?_
  · exact tel0 (by repeat (first | exact FrC.nil | refine FrC.cons (by first | exact ce2_free rfl | exact ce2_untok | exact ce2_nil) ?_))
  rintro q fr st ⟨i, hi, rfl, rfl, rfl⟩ R hR
  (conv => whnf)
  refine SIf.ds (fun hlt => ?_) (fun hge => ?_)
  · have hi' : i < l.length := by omega
    have he := List.getElem?_eq_getElem hi'
    have hm := hs _ (List.getElem_mem hi')
    generalize l[i] = e at he hm
    ((conv => whnf); repeat' ((first | refine SCall.app (Pure.any (rname_ok hG e.key hm.1) rfl) ?_ | refine SCall.app (Pure.any (rname_ok hG e.val hm.2) rfl) ?_ | refine SEx.of (map_get' (by omega) he) ?_ | refine SIf.ff rfl ?_ | refine SIf.tt rfl ?_ | refine SOpt.of rfl ?_ | refine SChk.mk rfl ?_ | refine SSame.mk rfl ?_ | refine SEx.of rfl ?_ | refine SOpt.no rfl ?_ | refine SWrap.w64 (by omega) (by omega) ?_ | refine SIf.dt (by omega) ?_ | refine SIf.df (by omega) ?_ | refine SIf.nt (by omega) ?_ | refine SIf.nf (by omega) ?_ | refine SChk.d (by omega) ?_ | refine SChk.ix (by omega) (by omega) ?_ | refine SChk.d3 (by omega) (by omega) (by omega) ?_ | refine SIf.ds (fun _ => ?_) (fun _ => ?_) | refine SIf.ns (fun _ => ?_) (fun _ => ?_) | refine SIf.mk (fun _ => ?_) (fun _ => ?_) | (intro r hr; cases r)) <;> (conv => whnf)))
    all_goals first
      | exact pure_free rfl ⟨false, rfl, fun h => by cases h⟩
      | (refine hR (l.length - (i + 1)) _ _ (by omega) ⟨_, _, ?_, i + 1, by omega, rfl, rfl, rfl⟩; exact tel0 (by repeat (first | exact FrC.nil | refine FrC.cons (by first | exact ce2_free rfl | exact ce2_untok | exact ce2_nil) ?_)))
  · ((conv => whnf); repeat' ((first | refine SIf.ff rfl ?_ | refine SIf.tt rfl ?_ | refine SOpt.of rfl ?_ | refine SChk.mk rfl ?_ | refine SSame.mk rfl ?_ | refine SEx.of rfl ?_ | refine SOpt.no rfl ?_ | refine SWrap.w64 (by omega) (by omega) ?_ | refine SIf.dt (by omega) ?_ | refine SIf.df (by omega) ?_ | refine SIf.nt (by omega) ?_ | refine SIf.nf (by omega) ?_ | refine SChk.d (by omega) ?_ | refine SChk.ix (by omega) (by omega) ?_ | refine SChk.d3 (by omega) (by omega) (by omega) ?_ | refine SIf.ds (fun _ => ?_) (fun _ => ?_) | refine SIf.ns (fun _ => ?_) (fun _ => ?_) | refine SIf.mk (fun _ => ?_) (fun _ => ?_) | (intro r hr; cases r)) <;> (conv => whnf)))
    all_goals exact pure_free rfl ⟨_, rfl, fun _ => trivial⟩
set_option maxHeartbeats 4000000 in
theorem rterms_ok (l : List TermD) (hl : LenOk l) (ho : ∀ x ∈ l, x.ok) (hs : ∀ x ∈ l, x.sok) : Pure P 163 [.sl none 3 (l.map termR)] (TellsB True) := by
  have hlm : (l.map termR).length = l.length := List.length_map _
  unfold LenOk at hl
  refine pure_fn (hG _ AF.f163 rfl) rfl ?_
  ((conv => whnf); repeat ((first | refine SIf.ff rfl ?_ | refine SIf.tt rfl ?_ | refine SOpt.of rfl ?_ | refine SChk.mk rfl ?_ | refine SSame.mk rfl ?_ | refine SEx.of rfl ?_ | refine SOpt.no rfl ?_ | refine SWrap.w64 (by omega) (by omega) ?_ | refine SIf.dt (by omega) ?_ | refine SIf.df (by omega) ?_ | refine SIf.nt (by omega) ?_ | refine SIf.nf (by omega) ?_ | refine SChk.d (by omega) ?_ | refine SChk.ix (by omega) (by omega) ?_ | refine SChk.d3 (by omega) (by omega) (by omega) ?_) <;> (conv => whnf)))
  refine SLoopZ.by (fun q fr st => ∃ i : Nat, i ≤ l.length ∧ q = l.length - i ∧ fr = [(9, .i .i64 i), (8, .i .i64 (l.map termR).length), (0, .sl none 3 (l.map termR))] ∧ st = gst noG)
    l.length ⟨_, _, ?_, 0, Nat.zero_le _, rfl, rfl, rfl⟩ ?_
  · exact tel0 (by repeat (first | exact FrC.nil | refine FrC.cons (by first | exact ce2_free rfl | exact ce2_untok | exact ce2_nil) ?_))
  rintro q fr st ⟨i, hi, rfl, rfl, rfl⟩ R hR
  (conv => whnf)
  refine SIf.ds (fun hlt => ?_) (fun hge => ?_)
  · have hi' : i < l.length := by omega
    have he := List.getElem?_eq_getElem hi'
    have hm := hs _ (List.getElem_mem hi')
    have hv : l[i].vals.length ≤ 9223372036854775807 := ho _ (List.getElem_mem hi')
    generalize l[i] = e at he hm hv
    have hvm : (e.vals.map strR).length = e.vals.length := List.length_map _
    ((conv => whnf); repeat' ((first | refine SCall.app (Pure.any (rname_ok hG e.key hm.1) rfl) ?_ | refine SEx.of (map_get' (by omega) he) ?_ | refine SIf.ff rfl ?_ | refine SIf.tt rfl ?_ | refine SOpt.of rfl ?_ | refine SChk.mk rfl ?_ | refine SSame.mk rfl ?_ | refine SEx.of rfl ?_ | refine SOpt.no rfl ?_ | refine SWrap.w64 (by omega) (by omega) ?_ | refine SIf.dt (by omega) ?_ | refine SIf.df (by omega) ?_ | refine SIf.nt (by omega) ?_ | refine SIf.nf (by omega) ?_ | refine SChk.d (by omega) ?_ | refine SChk.ix (by omega) (by omega) ?_ | refine SChk.d3 (by omega) (by omega) (by omega) ?_ | refine SIf.ds (fun _ => ?_) (fun _ => ?_) | refine SIf.ns (fun _ => ?_) (fun _ => ?_) | refine SIf.mk (fun _ => ?_) (fun _ => ?_) | (intro r hr; cases r)) <;> (conv => whnf)))
    all_goals try exact pure_free rfl ⟨false, rfl, fun h => by cases h⟩
    all_goals
      refine SLoopZ.by (fun q fr st => ∃ j : Nat, j ≤ e.vals.length ∧ q = e.vals.length - j ∧ fr = [(58, .i .i64 j), (57, .i .i64 (e.vals.map strR).length), (4, .p (.l 0) 0), (9, .i .i64 i), (8, .i .i64 (l.map termR).length), (0, .sl none 3 (l.map termR))] ∧ st = ⟨noG, ⟨1, [(0, .cs (termR e))]⟩⟩)
        e.vals.length ⟨_, _, ?_, 0, Nat.zero_le _, rfl, rfl, rfl⟩ ?_
      · exact telL [0] rfl (by decide) (by ((repeat (first | exact trivial | refine ⟨⟨Nat.le_of_ble_eq_true rfl, rfl, _, rfl, by first | exact trivial | exact ceL_flat rfl | exact ⟨rfl, ceLL_map (fun _ => rfl) _⟩ | exact (by ((repeat (first | exact trivial | refine ⟨by first | exact ce_flat rfl | exact .nil | exact .tok | exact .ren rfl (Nat.le_of_ble_eq_true rfl) | exact .rows (by ((repeat (first | exact .nil | refine .cons (by ((repeat (first | exact .nil | refine .cons (by first | exact .refl _ | exact .nil _) ?_)); first | done | fail)) ?_)); first | done | fail)), ?_⟩)); first | done | fail))⟩, ?_⟩)); first | done | fail)) (by repeat (first | exact FrC.nil | refine FrC.cons (by first | exact ce2_free rfl | exact ce2_p rfl (Nat.le_of_ble_eq_true rfl) | exact ce2_tok rfl (Nat.le_of_ble_eq_true rfl) | exact ce2_untok | exact ce2_nil) ?_))
      rintro q fr st ⟨j, hj, rfl, rfl, rfl⟩ R2 hR2
      (conv => whnf)
      refine SIf.ds (fun hlt2 => ?_) (fun hge2 => ?_)
      · have hj' : j < e.vals.length := by omega
        have hf := List.getElem?_eq_getElem hj'
        have hfm := hm.2 _ (List.getElem_mem hj')
        generalize e.vals[j] = f at hf hfm
        ((conv => whnf); repeat' ((first | refine SCall.app (Pure.any (rname_ok hG f hfm) rfl) ?_ | refine SEx.of (map_get' (by omega) hf) ?_ | refine SIf.ff rfl ?_ | refine SIf.tt rfl ?_ | refine SOpt.of rfl ?_ | refine SChk.mk rfl ?_ | refine SSame.mk rfl ?_ | refine SEx.of rfl ?_ | refine SOpt.no rfl ?_ | refine SWrap.w64 (by omega) (by omega) ?_ | refine SIf.dt (by omega) ?_ | refine SIf.df (by omega) ?_ | refine SIf.nt (by omega) ?_ | refine SIf.nf (by omega) ?_ | refine SChk.d (by omega) ?_ | refine SChk.ix (by omega) (by omega) ?_ | refine SChk.d3 (by omega) (by omega) (by omega) ?_ | refine SIf.ds (fun _ => ?_) (fun _ => ?_) | refine SIf.ns (fun _ => ?_) (fun _ => ?_) | refine SIf.mk (fun _ => ?_) (fun _ => ?_) | (intro r hr; cases r)) <;> (conv => whnf)))
        all_goals first
          | exact pure_free rfl ⟨false, rfl, fun h => by cases h⟩
          | (refine hR2 (e.vals.length - (j + 1)) _ _ (by omega) ⟨_, _, ?_, j + 1, by omega, rfl, rfl, rfl⟩; exact telL [0] rfl (by decide) (by ((repeat (first | exact trivial | refine ⟨⟨Nat.le_of_ble_eq_true rfl, rfl, _, rfl, by first | exact trivial | exact ceL_flat rfl | exact ⟨rfl, ceLL_map (fun _ => rfl) _⟩ | exact (by ((repeat (first | exact trivial | refine ⟨by first | exact ce_flat rfl | exact .nil | exact .tok | exact .ren rfl (Nat.le_of_ble_eq_true rfl) | exact .rows (by ((repeat (first | exact .nil | refine .cons (by ((repeat (first | exact .nil | refine .cons (by first | exact .refl _ | exact .nil _) ?_)); first | done | fail)) ?_)); first | done | fail)), ?_⟩)); first | done | fail))⟩, ?_⟩)); first | done | fail)) (by repeat (first | exact FrC.nil | refine FrC.cons (by first | exact ce2_free rfl | exact ce2_p rfl (Nat.le_of_ble_eq_true rfl) | exact ce2_tok rfl (Nat.le_of_ble_eq_true rfl) | exact ce2_untok | exact ce2_nil) ?_)))
      · ((conv => whnf); repeat ((first | refine SIf.ff rfl ?_ | refine SIf.tt rfl ?_ | refine SOpt.of rfl ?_ | refine SChk.mk rfl ?_ | refine SSame.mk rfl ?_ | refine SEx.of rfl ?_ | refine SOpt.no rfl ?_ | refine SWrap.w64 (by omega) (by omega) ?_ | refine SIf.dt (by omega) ?_ | refine SIf.df (by omega) ?_ | refine SIf.nt (by omega) ?_ | refine SIf.nf (by omega) ?_ | refine SChk.d (by omega) ?_ | refine SChk.ix (by omega) (by omega) ?_ | refine SChk.d3 (by omega) (by omega) (by omega) ?_) <;> (conv => whnf)))
        refine hR (l.length - (i + 1)) _ _ (by omega) ⟨_, _, ?_, i + 1, by omega, rfl, rfl, rfl⟩
        exact tel0 (by repeat (first | exact FrC.nil | refine FrC.cons (by first | exact ce2_free rfl | exact ce2_untok | exact ce2_nil) ?_))
  · ((conv => whnf); repeat' ((first | refine SIf.ff rfl ?_ | refine SIf.tt rfl ?_ | refine SOpt.of rfl ?_ | refine SChk.mk rfl ?_ | refine SSame.mk rfl ?_ | refine SEx.of rfl ?_ | refine SOpt.no rfl ?_ | refine SWrap.w64 (by omega) (by omega) ?_ | refine SIf.dt (by omega) ?_ | refine SIf.df (by omega) ?_ | refine SIf.nt (by omega) ?_ | refine SIf.nf (by omega) ?_ | refine SChk.d (by omega) ?_ | refine SChk.ix (by omega) (by omega) ?_ | refine SChk.d3 (by omega) (by omega) (by omega) ?_ | refine SIf.ds (fun _ => ?_) (fun _ => ?_) | refine SIf.ns (fun _ => ?_) (fun _ => ?_) | refine SIf.mk (fun _ => ?_) (fun _ => ?_) | (intro r hr; cases r)) <;> (conv => whnf)))
    all_goals exact pure_free rfl ⟨_, rfl, fun _ => trivial⟩
set_option maxHeartbeats 8000000 in
theorem rpod_ok (p : PodD) (hp : p.ok) (hs : p.sok) : Pure P 88 [.agg (podR p)] (TellsB True) := by
  have hlm : (p.ports.map intR).length = p.ports.length := List.length_map _
  have hl := hp.ports
  unfold LenOk at hl
  refine pure_fn (hG _ AF.f88 rfl) rfl ?_
  ((conv => whnf); repeat ((first | refine SIf.ff rfl ?_ | refine SIf.tt rfl ?_ | refine SOpt.of rfl ?_ | refine SChk.mk rfl ?_ | refine SSame.mk rfl ?_ | refine SEx.of rfl ?_ | refine SOpt.no rfl ?_ | refine SWrap.w64 (by omega) (by omega) ?_ | refine SIf.dt (by omega) ?_ | refine SIf.df (by omega) ?_ | refine SIf.nt (by omega) ?_ | refine SIf.nf (by omega) ?_ | refine SChk.d (by omega) ?_ | refine SChk.ix (by omega) (by omega) ?_ | refine SChk.d3 (by omega) (by omega) (by omega) ?_) <;> (conv => whnf)))
  refine SLoopZ.by (fun q fr st => ∃ i : Nat, i ≤ p.ports.length ∧ q = p.ports.length - i ∧ fr = [(7, .i .i64 i), (6, .i .i64 (p.ports.map intR).length), (1, .p (.l 0) 0)] ∧ st = ⟨noG, ⟨1, [(0, .cs (podR p))]⟩⟩)
    p.ports.length ⟨_, _, ?_, 0, Nat.zero_le _, rfl, rfl, rfl⟩ ?_
  · exact telL [0] rfl (by decide) (by ((repeat (first | exact trivial | refine ⟨⟨Nat.le_of_ble_eq_true rfl, rfl, _, rfl, by first | exact trivial | exact ceL_flat rfl | exact ⟨rfl, ceLL_map (fun _ => rfl) _⟩ | exact (by ((repeat (first | exact trivial | refine ⟨by first | exact ce_flat rfl | exact .nil | exact .tok | exact .ren rfl (Nat.le_of_ble_eq_true rfl) | exact .rows (by ((repeat (first | exact .nil | refine .cons (by ((repeat (first | exact .nil | refine .cons (by first | exact .refl _ | exact .nil _) ?_)); first | done | fail)) ?_)); first | done | fail)), ?_⟩)); first | done | fail))⟩, ?_⟩)); first | done | fail)) (by repeat (first | exact FrC.nil | refine FrC.cons (by first | exact ce2_free rfl | exact ce2_p rfl (Nat.le_of_ble_eq_true rfl) | exact ce2_tok rfl (Nat.le_of_ble_eq_true rfl) | exact ce2_untok | exact ce2_nil) ?_))
  rintro q fr st ⟨i, hi, rfl, rfl, rfl⟩ R hR
  (conv => whnf)
  refine SIf.ds (fun hlt => ?_) (fun hge => ?_)
  · have hi' : i < p.ports.length := by omega
    have he := List.getElem?_eq_getElem hi'
    generalize p.ports[i] = e at he
    rcases Nat.eq_zero_or_pos i with h0 | h0
    · ((conv => whnf); repeat' ((first | refine SEx.of (map_get' (by omega) he) ?_ | refine SIf.ff rfl ?_ | refine SIf.tt rfl ?_ | refine SOpt.of rfl ?_ | refine SChk.mk rfl ?_ | refine SSame.mk rfl ?_ | refine SEx.of rfl ?_ | refine SOpt.no rfl ?_ | refine SWrap.w64 (by omega) (by omega) ?_ | refine SIf.dt (by omega) ?_ | refine SIf.df (by omega) ?_ | refine SIf.nt (by omega) ?_ | refine SIf.nf (by omega) ?_ | refine SChk.d (by omega) ?_ | refine SChk.ix (by omega) (by omega) ?_ | refine SChk.d3 (by omega) (by omega) (by omega) ?_ | refine SIf.ds (fun _ => ?_) (fun _ => ?_) | refine SIf.ns (fun _ => ?_) (fun _ => ?_) | refine SIf.mk (fun _ => ?_) (fun _ => ?_) | (intro r hr; cases r)) <;> (conv => whnf)))
      all_goals first
        | exact pure_free rfl ⟨false, rfl, fun h => by cases h⟩
        | (refine hR (p.ports.length - (i + 1)) _ _ (by omega) ⟨_, _, ?_, i + 1, by omega, rfl, rfl, rfl⟩; exact telL [0] rfl (by decide) (by ((repeat (first | exact trivial | refine ⟨⟨Nat.le_of_ble_eq_true rfl, rfl, _, rfl, by first | exact trivial | exact ceL_flat rfl | exact ⟨rfl, ceLL_map (fun _ => rfl) _⟩ | exact (by ((repeat (first | exact trivial | refine ⟨by first | exact ce_flat rfl | exact .nil | exact .tok | exact .ren rfl (Nat.le_of_ble_eq_true rfl) | exact .rows (by ((repeat (first | exact .nil | refine .cons (by ((repeat (first | exact .nil | refine .cons (by first | exact .refl _ | exact .nil _) ?_)); first | done | fail)) ?_)); first | done | fail)), ?_⟩)); first | done | fail))⟩, ?_⟩)); first | done | fail)) (by repeat (first | exact FrC.nil | refine FrC.cons (by first | exact ce2_free rfl | exact ce2_p rfl (Nat.le_of_ble_eq_true rfl) | exact ce2_tok rfl (Nat.le_of_ble_eq_true rfl) | exact ce2_untok | exact ce2_nil) ?_)))
    · have hi2 : i - 1 < p.ports.length := by omega
      have hf := List.getElem?_eq_getElem hi2
      generalize p.ports[i - 1] = f at hf
      ((conv => whnf); repeat' ((first | refine SEx.of (map_get' (by omega) he) ?_ | refine SEx.of (map_get' (by omega) hf) ?_ | refine SIf.ff rfl ?_ | refine SIf.tt rfl ?_ | refine SOpt.of rfl ?_ | refine SChk.mk rfl ?_ | refine SSame.mk rfl ?_ | refine SEx.of rfl ?_ | refine SOpt.no rfl ?_ | refine SWrap.w64 (by omega) (by omega) ?_ | refine SIf.dt (by omega) ?_ | refine SIf.df (by omega) ?_ | refine SIf.nt (by omega) ?_ | refine SIf.nf (by omega) ?_ | refine SChk.d (by omega) ?_ | refine SChk.ix (by omega) (by omega) ?_ | refine SChk.d3 (by omega) (by omega) (by omega) ?_ | refine SIf.ds (fun _ => ?_) (fun _ => ?_) | refine SIf.ns (fun _ => ?_) (fun _ => ?_) | refine SIf.mk (fun _ => ?_) (fun _ => ?_) | (intro r hr; cases r)) <;> (conv => whnf)))
      all_goals first
        | exact pure_free rfl ⟨false, rfl, fun h => by cases h⟩
        | (refine hR (p.ports.length - (i + 1)) _ _ (by omega) ⟨_, _, ?_, i + 1, by omega, rfl, rfl, rfl⟩; exact telL [0] rfl (by decide) (by ((repeat (first | exact trivial | refine ⟨⟨Nat.le_of_ble_eq_true rfl, rfl, _, rfl, by first | exact trivial | exact ceL_flat rfl | exact ⟨rfl, ceLL_map (fun _ => rfl) _⟩ | exact (by ((repeat (first | exact trivial | refine ⟨by first | exact ce_flat rfl | exact .nil | exact .tok | exact .ren rfl (Nat.le_of_ble_eq_true rfl) | exact .rows (by ((repeat (first | exact .nil | refine .cons (by ((repeat (first | exact .nil | refine .cons (by first | exact .refl _ | exact .nil _) ?_)); first | done | fail)) ?_)); first | done | fail)), ?_⟩)); first | done | fail))⟩, ?_⟩)); first | done | fail)) (by repeat (first | exact FrC.nil | refine FrC.cons (by first | exact ce2_free rfl | exact ce2_p rfl (Nat.le_of_ble_eq_true rfl) | exact ce2_tok rfl (Nat.le_of_ble_eq_true rfl) | exact ce2_untok | exact ce2_nil) ?_)))
  · ((conv => whnf); repeat' ((first | refine SCall.app (Pure.any (rname_ok hG p.name hs.name) rfl) ?_ | refine SCall.app (Pure.any (rname_ok hG p.topo hs.topo) rfl) ?_ | refine SCall.app (Pure.any (rname_ok hG p.node hs.node) rfl) ?_ | refine SCall.app (Pure.any (rmay_ok hG p.req) rfl) ?_ | refine SCall.app (Pure.any (rpairs_ok hG _ hp.labels hs.labels) rfl) ?_ | refine SCall.app (Pure.any (rterms_ok hG p.sel hp.sel.len hp.sel.each hs.sel) rfl) ?_ | refine SCall.app (Pure.any (rterms_ok hG p.anti hp.anti.len hp.anti.each hs.anti) rfl) ?_ | refine SCall.app (Pure.any (rterms_ok hG p.even hp.even.len hp.even.each hs.even) rfl) ?_ | refine SCall.app (Pure.any (rtols_ok hG p.tols hp.tols hs.tols) rfl) ?_ | refine SIf.ff rfl ?_ | refine SIf.tt rfl ?_ | refine SOpt.of rfl ?_ | refine SChk.mk rfl ?_ | refine SSame.mk rfl ?_ | refine SEx.of rfl ?_ | refine SOpt.no rfl ?_ | refine SWrap.w64 (by omega) (by omega) ?_ | refine SIf.dt (by omega) ?_ | refine SIf.df (by omega) ?_ | refine SIf.nt (by omega) ?_ | refine SIf.nf (by omega) ?_ | refine SChk.d (by omega) ?_ | refine SChk.ix (by omega) (by omega) ?_ | refine SChk.d3 (by omega) (by omega) (by omega) ?_ | refine SIf.ds (fun _ => ?_) (fun _ => ?_) | refine SIf.ns (fun _ => ?_) (fun _ => ?_) | refine SIf.mk (fun _ => ?_) (fun _ => ?_) | (intro r hr; cases r)) <;> (conv => whnf)))
    all_goals exact pure_free rfl ⟨_, rfl, fun _ => trivial⟩
end
end Go.Eng
/-
States, by the document: a pod by its name, a node by its name, a state with a pod.
-/
namespace Go.Eng
open Go
def podZ : PodD := ⟨[], 0, 0, ⟨0, 0, 0⟩, [], [], [], [], [], [], 0, [], [], 0⟩
def nodeZ : NodeD := ⟨[], ⟨0, 0, 0⟩, [], []⟩
def podO (o : Option PodD) : V :=
  match o with
  | some p => .tup [.agg (podR p), .b true]
  | none => .tup [.agg (podR podZ), .b false]
def nodeO (o : Option NodeD) : V :=
  match o with
  | some n => .tup [.agg (nodeR n), .b true]
  | none => .tup [.agg (nodeR nodeZ), .b false]
/-- The same, with slices of nothing for nil. -/
theorem pure_tup1 {Q : V → Prop} {cs ds : List V} {b : Bool} {h' : Heap} (hc : CeL ren0 ⟨0, 0⟩ noFz cs ds) (hf : ds.all V.flat = true) (hq : Q (.tup [.agg ds, .b b])) : PureAt Q (.tup [.agg cs, .b b]) h' :=
  pure_ce (u := .tup [.agg ds, .b b]) noFz fzOf_no (.inr ⟨_, _, rfl, rfl, .inr (.inl ⟨_, _, rfl, rfl, hc⟩), ce1_free rfl, trivial⟩) (by simp only [V.free, List.all_cons, V.free1, hf]; rfl) hq
theorem pure_agg1 {Q : V → Prop} {cs ds : List V} {h' : Heap} (hc : CeL ren0 ⟨0, 0⟩ noFz cs ds) (hf : ds.all V.flat = true) (hq : Q (.agg ds)) : PureAt Q (.agg cs) h' :=
  pure_ce (u := .agg ds) noFz fzOf_no (.inl (.inr (.inl ⟨_, _, rfl, rfl, hc⟩))) hf hq
/-- What With tells of a state. -/
structure WithOf (s : StD) (p : PodD) (w : StD) : Prop where
  nodes : w.nodes = s.nodes
  pods : ∀ q ∈ w.pods, q ∈ s.pods ∨ q = p
  len : w.pods.length ≤ s.pods.length + 1
structure SoFar (s : StD) (p : PodD) (i : Nat) (d : Bool) (es : List PodD) : Prop where
  len : es.length ≤ i + d.toNat
  sub : ∀ q ∈ es, q ∈ s.pods ∨ q = p
theorem SoFar.p {s : StD} {p : PodD} {i : Nat} {es : List PodD} (h : SoFar s p i false es) : SoFar s p i true (es ++ [p]) :=
  ⟨by have := h.len; simp at this ⊢; omega, fun q hq => by
    rcases List.mem_append.1 hq with hq | hq
    · exact h.sub q hq
    · exact .inr (List.mem_singleton.1 hq)⟩
theorem SoFar.e {s : StD} {p e : PodD} {i : Nat} {d : Bool} {es : List PodD} (h : SoFar s p i d es) (he : e ∈ s.pods) : SoFar s p (i + 1) d (es ++ [e]) :=
  ⟨by have := h.len; simp at this ⊢; omega, fun q hq => by
    rcases List.mem_append.1 hq with hq | hq
    · exact h.sub q hq
    · rw [List.mem_singleton.1 hq]; exact .inl he⟩
theorem SoFar.s {s : StD} {p : PodD} {i : Nat} {d : Bool} {es : List PodD} (h : SoFar s p i d es) : SoFar s p (i + 1) d es := ⟨by have := h.len; omega, h.sub⟩
section
variable {P : Program} (hG : FnsOk P AF.fns.get)
include hG
set_option maxHeartbeats 1000000 in
set_option maxRecDepth 10000 in
theorem rgetpod_ok (s : StD) (name : Str) (hl : LenOk s.pods) : Pure P 165 [stV s, .s name] (· = podO (s.pods.find? fun p => p.name == name)) := by
  have hlm : (s.pods.map podR).length = s.pods.length := List.length_map _
  unfold LenOk at hl
  refine pure_fn (hG _ AF.f165 rfl) rfl ?_
  ((conv => whnf); repeat ((first | refine SIf.ff rfl ?_ | refine SIf.tt rfl ?_ | refine SOpt.of rfl ?_ | refine SChk.mk rfl ?_ | refine SSame.mk rfl ?_ | refine SEx.of rfl ?_ | refine SOpt.no rfl ?_ | refine SWrap.w64 (by omega) (by omega) ?_ | refine SIf.dt (by omega) ?_ | refine SIf.df (by omega) ?_ | refine SIf.nt (by omega) ?_ | refine SIf.nf (by omega) ?_ | refine SChk.d (by omega) ?_ | refine SChk.ix (by omega) (by omega) ?_ | refine SChk.d3 (by omega) (by omega) (by omega) ?_) <;> (conv => whnf)))
  refine SLoopZ.by (fun q fr st => ∃ i : Nat, i ≤ s.pods.length ∧ q = s.pods.length - i ∧ NoneYet (fun p => p.name == name) s.pods i ∧
      fr = [(10, .i .i64 i), (9, .i .i64 (s.pods.map podR).length), (4, .p (.l 1) 0), (2, .p (.l 0) 0), (1, .s name)] ∧ st = ⟨noG, ⟨2, [(1, .cs (podR podZ)), (0, .cs [.sl none 6 (s.nodes.map nodeR), .sl none 16 (s.pods.map podR)])]⟩⟩)
    s.pods.length ⟨_, _, ?_, 0, Nat.zero_le _, rfl, NoneYet.zero, rfl, rfl⟩ ?_
  · exact telL [0, 1] rfl (by decide) (by ((repeat (first | exact trivial | refine ⟨⟨Nat.le_of_ble_eq_true rfl, rfl, _, rfl, by first | exact trivial | exact ceL_flat rfl | exact ⟨rfl, ceLL_map (fun _ => rfl) _⟩ | exact (by ((repeat (first | exact trivial | refine ⟨by first | exact ce_flat rfl | exact .nil | exact .tok | exact .ren rfl (Nat.le_of_ble_eq_true rfl) | exact .rows (by ((repeat (first | exact .nil | refine .cons (by ((repeat (first | exact .nil | refine .cons (by first | exact .refl _ | exact .nil _) ?_)); first | done | fail)) ?_)); first | done | fail)), ?_⟩)); first | done | fail))⟩, ?_⟩)); first | done | fail)) (by repeat (first | exact FrC.nil | refine FrC.cons (by first | exact ce2_free rfl | exact ce2_p rfl (Nat.le_of_ble_eq_true rfl) | exact ce2_tok rfl (Nat.le_of_ble_eq_true rfl) | exact ce2_untok | exact ce2_nil) ?_))
  rintro q fr st ⟨i, hi, rfl, hok, rfl, rfl⟩ R hR
  (conv => whnf)
  refine SIf.ds (fun hlt => ?_) (fun hge => ?_)
  · have hi' : i < s.pods.length := by omega
    have he := List.getElem?_eq_getElem hi'
    generalize s.pods[i] = e at he
    ((conv => whnf); repeat ((first | refine SEx.of (map_get' (by omega) he) ?_ | refine SIf.ff rfl ?_ | refine SIf.tt rfl ?_ | refine SOpt.of rfl ?_ | refine SChk.mk rfl ?_ | refine SSame.mk rfl ?_ | refine SEx.of rfl ?_ | refine SOpt.no rfl ?_ | refine SWrap.w64 (by omega) (by omega) ?_ | refine SIf.dt (by omega) ?_ | refine SIf.df (by omega) ?_ | refine SIf.nt (by omega) ?_ | refine SIf.nf (by omega) ?_ | refine SChk.d (by omega) ?_ | refine SChk.ix (by omega) (by omega) ?_ | refine SChk.d3 (by omega) (by omega) (by omega) ?_) <;> (conv => whnf)))
    refine SIf.mk (fun hp => ?_) (fun hp => ?_)
    · ((conv => whnf); repeat ((first | refine SEx.of (map_get' (by omega) he) ?_ | refine SIf.ff rfl ?_ | refine SIf.tt rfl ?_ | refine SOpt.of rfl ?_ | refine SChk.mk rfl ?_ | refine SSame.mk rfl ?_ | refine SEx.of rfl ?_ | refine SOpt.no rfl ?_ | refine SWrap.w64 (by omega) (by omega) ?_ | refine SIf.dt (by omega) ?_ | refine SIf.df (by omega) ?_ | refine SIf.nt (by omega) ?_ | refine SIf.nf (by omega) ?_ | refine SChk.d (by omega) ?_ | refine SChk.ix (by omega) (by omega) ?_ | refine SChk.d3 (by omega) (by omega) (by omega) ?_) <;> (conv => whnf)))
      rw [find_some he hp hok]
      exact pure_free rfl rfl
    · ((conv => whnf); repeat ((first | refine SIf.ff rfl ?_ | refine SIf.tt rfl ?_ | refine SOpt.of rfl ?_ | refine SChk.mk rfl ?_ | refine SSame.mk rfl ?_ | refine SEx.of rfl ?_ | refine SOpt.no rfl ?_ | refine SWrap.w64 (by omega) (by omega) ?_ | refine SIf.dt (by omega) ?_ | refine SIf.df (by omega) ?_ | refine SIf.nt (by omega) ?_ | refine SIf.nf (by omega) ?_ | refine SChk.d (by omega) ?_ | refine SChk.ix (by omega) (by omega) ?_ | refine SChk.d3 (by omega) (by omega) (by omega) ?_) <;> (conv => whnf)))
      refine hR (s.pods.length - (i + 1)) _ _ (by omega) ⟨_, _, ?_, i + 1, by omega, rfl, hok.succ he hp, rfl, rfl⟩
      exact telL [0, 1] rfl (by decide) (by ((repeat (first | exact trivial | refine ⟨⟨Nat.le_of_ble_eq_true rfl, rfl, _, rfl, by first | exact trivial | exact ceL_flat rfl | exact ⟨rfl, ceLL_map (fun _ => rfl) _⟩ | exact (by ((repeat (first | exact trivial | refine ⟨by first | exact ce_flat rfl | exact .nil | exact .tok | exact .ren rfl (Nat.le_of_ble_eq_true rfl) | exact .rows (by ((repeat (first | exact .nil | refine .cons (by ((repeat (first | exact .nil | refine .cons (by first | exact .refl _ | exact .nil _) ?_)); first | done | fail)) ?_)); first | done | fail)), ?_⟩)); first | done | fail))⟩, ?_⟩)); first | done | fail)) (by repeat (first | exact FrC.nil | refine FrC.cons (by first | exact ce2_free rfl | exact ce2_p rfl (Nat.le_of_ble_eq_true rfl) | exact ce2_tok rfl (Nat.le_of_ble_eq_true rfl) | exact ce2_untok | exact ce2_nil) ?_))
  · ((conv => whnf); repeat ((first | refine SIf.ff rfl ?_ | refine SIf.tt rfl ?_ | refine SOpt.of rfl ?_ | refine SChk.mk rfl ?_ | refine SSame.mk rfl ?_ | refine SEx.of rfl ?_ | refine SOpt.no rfl ?_ | refine SWrap.w64 (by omega) (by omega) ?_ | refine SIf.dt (by omega) ?_ | refine SIf.df (by omega) ?_ | refine SIf.nt (by omega) ?_ | refine SIf.nf (by omega) ?_ | refine SChk.d (by omega) ?_ | refine SChk.ix (by omega) (by omega) ?_ | refine SChk.d3 (by omega) (by omega) (by omega) ?_) <;> (conv => whnf)))
    rw [find_none (hok.all (by omega))]
    exact pure_tup1 (ds := podR podZ) (by ((repeat (first | exact trivial | refine ⟨by first | exact ce_flat rfl | exact .nil | exact .tok | exact .ren rfl (Nat.le_of_ble_eq_true rfl) | exact .rows (by ((repeat (first | exact .nil | refine .cons (by ((repeat (first | exact .nil | refine .cons (by first | exact .refl _ | exact .nil _) ?_)); first | done | fail)) ?_)); first | done | fail)), ?_⟩)); first | done | fail)) rfl rfl
set_option maxHeartbeats 1000000 in
set_option maxRecDepth 10000 in
theorem rgetnode_ok (s : StD) (name : Str) (hl : LenOk s.nodes) : Pure P 87 [stV s, .s name] (· = nodeO (s.nodes.find? fun p => p.name == name)) := by
  have hlm : (s.nodes.map nodeR).length = s.nodes.length := List.length_map _
  unfold LenOk at hl
  refine pure_fn (hG _ AF.f87 rfl) rfl ?_
  ((conv => whnf); repeat ((first | refine SIf.ff rfl ?_ | refine SIf.tt rfl ?_ | refine SOpt.of rfl ?_ | refine SChk.mk rfl ?_ | refine SSame.mk rfl ?_ | refine SEx.of rfl ?_ | refine SOpt.no rfl ?_ | refine SWrap.w64 (by omega) (by omega) ?_ | refine SIf.dt (by omega) ?_ | refine SIf.df (by omega) ?_ | refine SIf.nt (by omega) ?_ | refine SIf.nf (by omega) ?_ | refine SChk.d (by omega) ?_ | refine SChk.ix (by omega) (by omega) ?_ | refine SChk.d3 (by omega) (by omega) (by omega) ?_) <;> (conv => whnf)))
  refine SLoopZ.by (fun q fr st => ∃ i : Nat, i ≤ s.nodes.length ∧ q = s.nodes.length - i ∧ NoneYet (fun p => p.name == name) s.nodes i ∧
      fr = [(10, .i .i64 i), (9, .i .i64 (s.nodes.map nodeR).length), (4, .p (.l 1) 0), (2, .p (.l 0) 0), (1, .s name)] ∧ st = ⟨noG, ⟨2, [(1, .cs (nodeR nodeZ)), (0, .cs [.sl none 6 (s.nodes.map nodeR), .sl none 16 (s.pods.map podR)])]⟩⟩)
    s.nodes.length ⟨_, _, ?_, 0, Nat.zero_le _, rfl, NoneYet.zero, rfl, rfl⟩ ?_
  · exact telL [0, 1] rfl (by decide) (by ((repeat (first | exact trivial | refine ⟨⟨Nat.le_of_ble_eq_true rfl, rfl, _, rfl, by first | exact trivial | exact ceL_flat rfl | exact ⟨rfl, ceLL_map (fun _ => rfl) _⟩ | exact (by ((repeat (first | exact trivial | refine ⟨by first | exact ce_flat rfl | exact .nil | exact .tok | exact .ren rfl (Nat.le_of_ble_eq_true rfl) | exact .rows (by ((repeat (first | exact .nil | refine .cons (by ((repeat (first | exact .nil | refine .cons (by first | exact .refl _ | exact .nil _) ?_)); first | done | fail)) ?_)); first | done | fail)), ?_⟩)); first | done | fail))⟩, ?_⟩)); first | done | fail)) (by repeat (first | exact FrC.nil | refine FrC.cons (by first | exact ce2_free rfl | exact ce2_p rfl (Nat.le_of_ble_eq_true rfl) | exact ce2_tok rfl (Nat.le_of_ble_eq_true rfl) | exact ce2_untok | exact ce2_nil) ?_))
  rintro q fr st ⟨i, hi, rfl, hok, rfl, rfl⟩ R hR
  (conv => whnf)
  refine SIf.ds (fun hlt => ?_) (fun hge => ?_)
  · have hi' : i < s.nodes.length := by omega
    have he := List.getElem?_eq_getElem hi'
    generalize s.nodes[i] = e at he
    ((conv => whnf); repeat ((first | refine SEx.of (map_get' (by omega) he) ?_ | refine SIf.ff rfl ?_ | refine SIf.tt rfl ?_ | refine SOpt.of rfl ?_ | refine SChk.mk rfl ?_ | refine SSame.mk rfl ?_ | refine SEx.of rfl ?_ | refine SOpt.no rfl ?_ | refine SWrap.w64 (by omega) (by omega) ?_ | refine SIf.dt (by omega) ?_ | refine SIf.df (by omega) ?_ | refine SIf.nt (by omega) ?_ | refine SIf.nf (by omega) ?_ | refine SChk.d (by omega) ?_ | refine SChk.ix (by omega) (by omega) ?_ | refine SChk.d3 (by omega) (by omega) (by omega) ?_) <;> (conv => whnf)))
    refine SIf.mk (fun hp => ?_) (fun hp => ?_)
    · ((conv => whnf); repeat ((first | refine SEx.of (map_get' (by omega) he) ?_ | refine SIf.ff rfl ?_ | refine SIf.tt rfl ?_ | refine SOpt.of rfl ?_ | refine SChk.mk rfl ?_ | refine SSame.mk rfl ?_ | refine SEx.of rfl ?_ | refine SOpt.no rfl ?_ | refine SWrap.w64 (by omega) (by omega) ?_ | refine SIf.dt (by omega) ?_ | refine SIf.df (by omega) ?_ | refine SIf.nt (by omega) ?_ | refine SIf.nf (by omega) ?_ | refine SChk.d (by omega) ?_ | refine SChk.ix (by omega) (by omega) ?_ | refine SChk.d3 (by omega) (by omega) (by omega) ?_) <;> (conv => whnf)))
      rw [find_some he hp hok]
      exact pure_free rfl rfl
    · ((conv => whnf); repeat ((first | refine SIf.ff rfl ?_ | refine SIf.tt rfl ?_ | refine SOpt.of rfl ?_ | refine SChk.mk rfl ?_ | refine SSame.mk rfl ?_ | refine SEx.of rfl ?_ | refine SOpt.no rfl ?_ | refine SWrap.w64 (by omega) (by omega) ?_ | refine SIf.dt (by omega) ?_ | refine SIf.df (by omega) ?_ | refine SIf.nt (by omega) ?_ | refine SIf.nf (by omega) ?_ | refine SChk.d (by omega) ?_ | refine SChk.ix (by omega) (by omega) ?_ | refine SChk.d3 (by omega) (by omega) (by omega) ?_) <;> (conv => whnf)))
      refine hR (s.nodes.length - (i + 1)) _ _ (by omega) ⟨_, _, ?_, i + 1, by omega, rfl, hok.succ he hp, rfl, rfl⟩
      exact telL [0, 1] rfl (by decide) (by ((repeat (first | exact trivial | refine ⟨⟨Nat.le_of_ble_eq_true rfl, rfl, _, rfl, by first | exact trivial | exact ceL_flat rfl | exact ⟨rfl, ceLL_map (fun _ => rfl) _⟩ | exact (by ((repeat (first | exact trivial | refine ⟨by first | exact ce_flat rfl | exact .nil | exact .tok | exact .ren rfl (Nat.le_of_ble_eq_true rfl) | exact .rows (by ((repeat (first | exact .nil | refine .cons (by ((repeat (first | exact .nil | refine .cons (by first | exact .refl _ | exact .nil _) ?_)); first | done | fail)) ?_)); first | done | fail)), ?_⟩)); first | done | fail))⟩, ?_⟩)); first | done | fail)) (by repeat (first | exact FrC.nil | refine FrC.cons (by first | exact ce2_free rfl | exact ce2_p rfl (Nat.le_of_ble_eq_true rfl) | exact ce2_tok rfl (Nat.le_of_ble_eq_true rfl) | exact ce2_untok | exact ce2_nil) ?_))
  · ((conv => whnf); repeat ((first | refine SIf.ff rfl ?_ | refine SIf.tt rfl ?_ | refine SOpt.of rfl ?_ | refine SChk.mk rfl ?_ | refine SSame.mk rfl ?_ | refine SEx.of rfl ?_ | refine SOpt.no rfl ?_ | refine SWrap.w64 (by omega) (by omega) ?_ | refine SIf.dt (by omega) ?_ | refine SIf.df (by omega) ?_ | refine SIf.nt (by omega) ?_ | refine SIf.nf (by omega) ?_ | refine SChk.d (by omega) ?_ | refine SChk.ix (by omega) (by omega) ?_ | refine SChk.d3 (by omega) (by omega) (by omega) ?_) <;> (conv => whnf)))
    rw [find_none (hok.all (by omega))]
    exact pure_tup1 (ds := nodeR nodeZ) (by ((repeat (first | exact trivial | refine ⟨by first | exact ce_flat rfl | exact .nil | exact .tok | exact .ren rfl (Nat.le_of_ble_eq_true rfl) | exact .rows (by ((repeat (first | exact .nil | refine .cons (by ((repeat (first | exact .nil | refine .cons (by first | exact .refl _ | exact .nil _) ?_)); first | done | fail)) ?_)); first | done | fail)), ?_⟩)); first | done | fail)) rfl rfl
set_option maxHeartbeats 8000000 in
set_option maxRecDepth 20000 in
theorem rwith_ok (s : StD) (p : PodD) (hs : s.pods.length * 248 + 1000 ≤ 140737488355328) : Pure P 89 [stV s, .agg (podR p)] (fun u => ∃ w, u = stV w ∧ WithOf s p w) := by
  have hlm : (s.pods.map podR).length = s.pods.length := List.length_map _
  have hg := rgetpod_ok hG s p.name (by unfold LenOk; omega)
  obtain ⟨o, ho⟩ : ∃ o, o = (s.pods.find? fun q => q.name == p.name) := ⟨_, rfl⟩
  rw [← ho] at hg
  refine pure_fn (hG _ AF.f89 rfl) rfl ?_
  obtain ⟨z, t, hz⟩ : ∃ (z : PodD) (t : Bool), podO o = .tup [.agg (podR z), .b t] := by cases o <;> exact ⟨_, _, rfl⟩
  rw [hz] at hg
  ((conv => whnf); repeat ((first | refine SCall.app (Pure.go hg rfl) ?_ | refine SIf.ff rfl ?_ | refine SIf.tt rfl ?_ | refine SOpt.of rfl ?_ | refine SChk.mk rfl ?_ | refine SSame.mk rfl ?_ | refine SEx.of rfl ?_ | refine SOpt.no rfl ?_ | refine SWrap.w64 (by omega) (by omega) ?_ | refine SIf.dt (by omega) ?_ | refine SIf.df (by omega) ?_ | refine SIf.nt (by omega) ?_ | refine SIf.nf (by omega) ?_ | refine SChk.d (by omega) ?_ | refine SChk.ix (by omega) (by omega) ?_ | refine SChk.d3 (by omega) (by omega) (by omega) ?_) <;> (conv => whnf)))
  refine SLoopZ.by (fun q fr st => ∃ (i : Nat) (d b : Bool) (es : List PodD), i ≤ s.pods.length ∧ q = s.pods.length - i ∧ SoFar s p i d es ∧ (b = false → es = []) ∧
      fr = [(23, .i .i64 i), (22, .i .i64 (s.pods.map podR).length), (8, .b d), (7, .b t), (5, .p (.l 3) 0), (4, .p (.l 2) 0), (3, .p (.l 1) 0), (2, .p (.l 0) 0)] ∧
      st = accS b 4 [(3, .cs [.sl none 6 (s.nodes.map nodeR), accV b 4 16 (es.map podR)]), (2, .cs [.nils, .nils]), (1, .cs (podR p)), (0, .cs [.sl none 6 (s.nodes.map nodeR), .sl none 16 (s.pods.map podR)])])
    s.pods.length ⟨_, _, ?_, 0, false, false, [], Nat.zero_le _, rfl, ⟨Nat.zero_le _, fun q h => by cases h⟩, fun _ => rfl, rfl, rfl⟩ ?_
  · exact telL [0, 1, 2, 3] rfl (by decide) (by ((repeat (first | exact trivial | refine ⟨⟨Nat.le_of_ble_eq_true rfl, rfl, _, rfl, by first | exact trivial | exact ceL_flat rfl | exact ⟨rfl, ceLL_map (fun _ => rfl) _⟩ | exact (by ((repeat (first | exact trivial | refine ⟨by first | exact ce_flat rfl | exact .nil | exact .tok | exact .ren rfl (Nat.le_of_ble_eq_true rfl) | exact .rows (by ((repeat (first | exact .nil | refine .cons (by ((repeat (first | exact .nil | refine .cons (by first | exact .refl _ | exact .nil _) ?_)); first | done | fail)) ?_)); first | done | fail)), ?_⟩)); first | done | fail))⟩, ?_⟩)); first | done | fail)) (by repeat (first | exact FrC.nil | refine FrC.cons (by first | exact ce2_free rfl | exact ce2_p rfl (Nat.le_of_ble_eq_true rfl) | exact ce2_tok rfl (Nat.le_of_ble_eq_true rfl) | exact ce2_untok | exact ce2_nil) ?_))
  rintro q fr st ⟨i, d, b, es, hi, rfl, hg, hb, rfl, rfl⟩ R hR
  have hesl : es.length ≤ i + 1 := by have := hg.len; cases d <;> simp at this <;> omega
  (conv => whnf)
  refine SIf.ds (fun hlt => ?_) (fun hge => ?_)
  · have hi' : i < s.pods.length := by omega
    have he := List.getElem?_eq_getElem hi'
    have hm := List.getElem_mem hi'
    generalize s.pods[i] = e at he hm
    have k0 := hg.s
    have k2 := hg.e hm
    have hint1 : es.map podR ++ [podR p] = (es ++ [p]).map podR := by rw [List.map_append]; rfl
    have hint2 : es.map podR ++ [podR e] = (es ++ [e]).map podR := by rw [List.map_append]; rfl
    have hint3 : (es ++ [p]).map podR ++ [podR e] = (es ++ [p] ++ [e]).map podR := by simp only [List.map_append, List.map_cons, List.map_nil]
    cases b <;> cases d
    · obtain rfl : es = [] := hb rfl
      have k1 := hg.p.s
      have k3 := hg.p.e hm
      ((conv => whnf); repeat' ((first | refine SEx.of (map_get' (by omega) he) ?_ | refine SIf.ff rfl ?_ | refine SIf.tt rfl ?_ | refine SOpt.of rfl ?_ | refine SChk.mk rfl ?_ | refine SSame.mk rfl ?_ | refine SEx.of rfl ?_ | refine SOpt.no rfl ?_ | refine SWrap.w64 (by omega) (by omega) ?_ | refine SIf.dt (by omega) ?_ | refine SIf.df (by omega) ?_ | refine SIf.nt (by omega) ?_ | refine SIf.nf (by omega) ?_ | refine SChk.d (by omega) ?_ | refine SChk.ix (by omega) (by omega) ?_ | refine SChk.d3 (by omega) (by omega) (by omega) ?_ | refine SIf.ds (fun _ => ?_) (fun _ => ?_) | refine SIf.ns (fun _ => ?_) (fun _ => ?_) | refine SIf.mk (fun _ => ?_) (fun _ => ?_) | (intro r hr; cases r)) <;> (conv => whnf)))
      · refine hR (s.pods.length - (i + 1)) _ _ (by omega) ⟨_, _, ?_, i + 1, true, true, [] ++ [p], by omega, rfl, k1, (fun h => by cases h), rfl, rfl⟩
        exact telL [0, 1, 2, 3, 5] rfl (by decide) (by ((repeat (first | exact trivial | refine ⟨⟨Nat.le_of_ble_eq_true rfl, rfl, _, rfl, by first | exact trivial | exact ceL_flat rfl | exact ⟨rfl, ceLL_map (fun _ => rfl) _⟩ | exact (by ((repeat (first | exact trivial | refine ⟨by first | exact ce_flat rfl | exact .nil | exact .tok | exact .ren rfl (Nat.le_of_ble_eq_true rfl) | exact .rows (by ((repeat (first | exact .nil | refine .cons (by ((repeat (first | exact .nil | refine .cons (by first | exact .refl _ | exact .nil _) ?_)); first | done | fail)) ?_)); first | done | fail)), ?_⟩)); first | done | fail))⟩, ?_⟩)); first | done | fail)) (by repeat (first | exact FrC.nil | refine FrC.cons (by first | exact ce2_free rfl | exact ce2_p rfl (Nat.le_of_ble_eq_true rfl) | exact ce2_tok rfl (Nat.le_of_ble_eq_true rfl) | exact ce2_untok | exact ce2_nil) ?_))
      · refine hR (s.pods.length - (i + 1)) _ _ (by omega) ⟨_, _, ?_, i + 1, true, true, [] ++ [p] ++ [e], by omega, rfl, k3, (fun h => by cases h), rfl, rfl⟩
        exact telL [0, 1, 2, 3, 7] rfl (by decide) (by ((repeat (first | exact trivial | refine ⟨⟨Nat.le_of_ble_eq_true rfl, rfl, _, rfl, by first | exact trivial | exact ceL_flat rfl | exact ⟨rfl, ceLL_map (fun _ => rfl) _⟩ | exact (by ((repeat (first | exact trivial | refine ⟨by first | exact ce_flat rfl | exact .nil | exact .tok | exact .ren rfl (Nat.le_of_ble_eq_true rfl) | exact .rows (by ((repeat (first | exact .nil | refine .cons (by ((repeat (first | exact .nil | refine .cons (by first | exact .refl _ | exact .nil _) ?_)); first | done | fail)) ?_)); first | done | fail)), ?_⟩)); first | done | fail))⟩, ?_⟩)); first | done | fail)) (by repeat (first | exact FrC.nil | refine FrC.cons (by first | exact ce2_free rfl | exact ce2_p rfl (Nat.le_of_ble_eq_true rfl) | exact ce2_tok rfl (Nat.le_of_ble_eq_true rfl) | exact ce2_untok | exact ce2_nil) ?_))
      · refine hR (s.pods.length - (i + 1)) _ _ (by omega) ⟨_, _, ?_, i + 1, false, true, [] ++ [e], by omega, rfl, k2, (fun h => by cases h), rfl, rfl⟩
        exact telL [0, 1, 2, 3, 5] rfl (by decide) (by ((repeat (first | exact trivial | refine ⟨⟨Nat.le_of_ble_eq_true rfl, rfl, _, rfl, by first | exact trivial | exact ceL_flat rfl | exact ⟨rfl, ceLL_map (fun _ => rfl) _⟩ | exact (by ((repeat (first | exact trivial | refine ⟨by first | exact ce_flat rfl | exact .nil | exact .tok | exact .ren rfl (Nat.le_of_ble_eq_true rfl) | exact .rows (by ((repeat (first | exact .nil | refine .cons (by ((repeat (first | exact .nil | refine .cons (by first | exact .refl _ | exact .nil _) ?_)); first | done | fail)) ?_)); first | done | fail)), ?_⟩)); first | done | fail))⟩, ?_⟩)); first | done | fail)) (by repeat (first | exact FrC.nil | refine FrC.cons (by first | exact ce2_free rfl | exact ce2_p rfl (Nat.le_of_ble_eq_true rfl) | exact ce2_tok rfl (Nat.le_of_ble_eq_true rfl) | exact ce2_untok | exact ce2_nil) ?_))
      · refine hR (s.pods.length - (i + 1)) _ _ (by omega) ⟨_, _, ?_, i + 1, false, true, [] ++ [e], by omega, rfl, k2, (fun h => by cases h), rfl, rfl⟩
        exact telL [0, 1, 2, 3, 5] rfl (by decide) (by ((repeat (first | exact trivial | refine ⟨⟨Nat.le_of_ble_eq_true rfl, rfl, _, rfl, by first | exact trivial | exact ceL_flat rfl | exact ⟨rfl, ceLL_map (fun _ => rfl) _⟩ | exact (by ((repeat (first | exact trivial | refine ⟨by first | exact ce_flat rfl | exact .nil | exact .tok | exact .ren rfl (Nat.le_of_ble_eq_true rfl) | exact .rows (by ((repeat (first | exact .nil | refine .cons (by ((repeat (first | exact .nil | refine .cons (by first | exact .refl _ | exact .nil _) ?_)); first | done | fail)) ?_)); first | done | fail)), ?_⟩)); first | done | fail))⟩, ?_⟩)); first | done | fail)) (by repeat (first | exact FrC.nil | refine FrC.cons (by first | exact ce2_free rfl | exact ce2_p rfl (Nat.le_of_ble_eq_true rfl) | exact ce2_tok rfl (Nat.le_of_ble_eq_true rfl) | exact ce2_untok | exact ce2_nil) ?_))
    · obtain rfl : es = [] := hb rfl
      ((conv => whnf); repeat' ((first | refine SEx.of (map_get' (by omega) he) ?_ | refine SIf.ff rfl ?_ | refine SIf.tt rfl ?_ | refine SOpt.of rfl ?_ | refine SChk.mk rfl ?_ | refine SSame.mk rfl ?_ | refine SEx.of rfl ?_ | refine SOpt.no rfl ?_ | refine SWrap.w64 (by omega) (by omega) ?_ | refine SIf.dt (by omega) ?_ | refine SIf.df (by omega) ?_ | refine SIf.nt (by omega) ?_ | refine SIf.nf (by omega) ?_ | refine SChk.d (by omega) ?_ | refine SChk.ix (by omega) (by omega) ?_ | refine SChk.d3 (by omega) (by omega) (by omega) ?_ | refine SIf.ds (fun _ => ?_) (fun _ => ?_) | refine SIf.ns (fun _ => ?_) (fun _ => ?_) | refine SIf.mk (fun _ => ?_) (fun _ => ?_) | (intro r hr; cases r)) <;> (conv => whnf)))
      · refine hR (s.pods.length - (i + 1)) _ _ (by omega) ⟨_, _, ?_, i + 1, true, false, [], by omega, rfl, k0, fun _ => rfl, rfl, rfl⟩
        exact telL [0, 1, 2, 3] rfl (by decide) (by ((repeat (first | exact trivial | refine ⟨⟨Nat.le_of_ble_eq_true rfl, rfl, _, rfl, by first | exact trivial | exact ceL_flat rfl | exact ⟨rfl, ceLL_map (fun _ => rfl) _⟩ | exact (by ((repeat (first | exact trivial | refine ⟨by first | exact ce_flat rfl | exact .nil | exact .tok | exact .ren rfl (Nat.le_of_ble_eq_true rfl) | exact .rows (by ((repeat (first | exact .nil | refine .cons (by ((repeat (first | exact .nil | refine .cons (by first | exact .refl _ | exact .nil _) ?_)); first | done | fail)) ?_)); first | done | fail)), ?_⟩)); first | done | fail))⟩, ?_⟩)); first | done | fail)) (by repeat (first | exact FrC.nil | refine FrC.cons (by first | exact ce2_free rfl | exact ce2_p rfl (Nat.le_of_ble_eq_true rfl) | exact ce2_tok rfl (Nat.le_of_ble_eq_true rfl) | exact ce2_untok | exact ce2_nil) ?_))
      all_goals
        refine hR (s.pods.length - (i + 1)) _ _ (by omega) ⟨_, _, ?_, i + 1, true, true, [] ++ [e], by omega, rfl, k2, (fun h => by cases h), rfl, rfl⟩
        exact telL [0, 1, 2, 3, 5] rfl (by decide) (by ((repeat (first | exact trivial | refine ⟨⟨Nat.le_of_ble_eq_true rfl, rfl, _, rfl, by first | exact trivial | exact ceL_flat rfl | exact ⟨rfl, ceLL_map (fun _ => rfl) _⟩ | exact (by ((repeat (first | exact trivial | refine ⟨by first | exact ce_flat rfl | exact .nil | exact .tok | exact .ren rfl (Nat.le_of_ble_eq_true rfl) | exact .rows (by ((repeat (first | exact .nil | refine .cons (by ((repeat (first | exact .nil | refine .cons (by first | exact .refl _ | exact .nil _) ?_)); first | done | fail)) ?_)); first | done | fail)), ?_⟩)); first | done | fail))⟩, ?_⟩)); first | done | fail)) (by repeat (first | exact FrC.nil | refine FrC.cons (by first | exact ce2_free rfl | exact ce2_p rfl (Nat.le_of_ble_eq_true rfl) | exact ce2_tok rfl (Nat.le_of_ble_eq_true rfl) | exact ce2_untok | exact ce2_nil) ?_))
    · have k1 := hg.p.s
      have k3 := hg.p.e hm
      ((conv => whnf); repeat' ((first | refine SEx.of (congrArg some hint1) ?_ | refine SEx.of (congrArg some hint2) ?_ | refine SEx.of (congrArg some hint3) ?_ | refine SChk.mk (by simp [roomOk]; omega) ?_ | refine SEx.of (map_get' (by omega) he) ?_ | refine SIf.ff rfl ?_ | refine SIf.tt rfl ?_ | refine SOpt.of rfl ?_ | refine SChk.mk rfl ?_ | refine SSame.mk rfl ?_ | refine SEx.of rfl ?_ | refine SOpt.no rfl ?_ | refine SWrap.w64 (by omega) (by omega) ?_ | refine SIf.dt (by omega) ?_ | refine SIf.df (by omega) ?_ | refine SIf.nt (by omega) ?_ | refine SIf.nf (by omega) ?_ | refine SChk.d (by omega) ?_ | refine SChk.ix (by omega) (by omega) ?_ | refine SChk.d3 (by omega) (by omega) (by omega) ?_ | refine SIf.ds (fun _ => ?_) (fun _ => ?_) | refine SIf.ns (fun _ => ?_) (fun _ => ?_) | refine SIf.mk (fun _ => ?_) (fun _ => ?_) | (intro r hr; cases r)) <;> (conv => whnf)))
      · refine hR (s.pods.length - (i + 1)) _ _ (by omega) ⟨_, _, ?_, i + 1, true, true, es ++ [p], by omega, rfl, k1, (fun h => by cases h), rfl, rfl⟩
        exact telL [0, 1, 2, 3, 6] rfl (by decide) (by ((repeat (first | exact trivial | refine ⟨⟨Nat.le_of_ble_eq_true rfl, rfl, _, rfl, by first | exact trivial | exact ceL_flat rfl | exact ⟨rfl, ceLL_map (fun _ => rfl) _⟩ | exact (by ((repeat (first | exact trivial | refine ⟨by first | exact ce_flat rfl | exact .nil | exact .tok | exact .ren rfl (Nat.le_of_ble_eq_true rfl) | exact .rows (by ((repeat (first | exact .nil | refine .cons (by ((repeat (first | exact .nil | refine .cons (by first | exact .refl _ | exact .nil _) ?_)); first | done | fail)) ?_)); first | done | fail)), ?_⟩)); first | done | fail))⟩, ?_⟩)); first | done | fail)) (by repeat (first | exact FrC.nil | refine FrC.cons (by first | exact ce2_free rfl | exact ce2_p rfl (Nat.le_of_ble_eq_true rfl) | exact ce2_tok rfl (Nat.le_of_ble_eq_true rfl) | exact ce2_untok | exact ce2_nil) ?_))
      · refine hR (s.pods.length - (i + 1)) _ _ (by omega) ⟨_, _, ?_, i + 1, true, true, es ++ [p] ++ [e], by omega, rfl, k3, (fun h => by cases h), rfl, rfl⟩
        exact telL [0, 1, 2, 3, 8] rfl (by decide) (by ((repeat (first | exact trivial | refine ⟨⟨Nat.le_of_ble_eq_true rfl, rfl, _, rfl, by first | exact trivial | exact ceL_flat rfl | exact ⟨rfl, ceLL_map (fun _ => rfl) _⟩ | exact (by ((repeat (first | exact trivial | refine ⟨by first | exact ce_flat rfl | exact .nil | exact .tok | exact .ren rfl (Nat.le_of_ble_eq_true rfl) | exact .rows (by ((repeat (first | exact .nil | refine .cons (by ((repeat (first | exact .nil | refine .cons (by first | exact .refl _ | exact .nil _) ?_)); first | done | fail)) ?_)); first | done | fail)), ?_⟩)); first | done | fail))⟩, ?_⟩)); first | done | fail)) (by repeat (first | exact FrC.nil | refine FrC.cons (by first | exact ce2_free rfl | exact ce2_p rfl (Nat.le_of_ble_eq_true rfl) | exact ce2_tok rfl (Nat.le_of_ble_eq_true rfl) | exact ce2_untok | exact ce2_nil) ?_))
      · refine hR (s.pods.length - (i + 1)) _ _ (by omega) ⟨_, _, ?_, i + 1, false, true, es ++ [e], by omega, rfl, k2, (fun h => by cases h), rfl, rfl⟩
        exact telL [0, 1, 2, 3, 6] rfl (by decide) (by ((repeat (first | exact trivial | refine ⟨⟨Nat.le_of_ble_eq_true rfl, rfl, _, rfl, by first | exact trivial | exact ceL_flat rfl | exact ⟨rfl, ceLL_map (fun _ => rfl) _⟩ | exact (by ((repeat (first | exact trivial | refine ⟨by first | exact ce_flat rfl | exact .nil | exact .tok | exact .ren rfl (Nat.le_of_ble_eq_true rfl) | exact .rows (by ((repeat (first | exact .nil | refine .cons (by ((repeat (first | exact .nil | refine .cons (by first | exact .refl _ | exact .nil _) ?_)); first | done | fail)) ?_)); first | done | fail)), ?_⟩)); first | done | fail))⟩, ?_⟩)); first | done | fail)) (by repeat (first | exact FrC.nil | refine FrC.cons (by first | exact ce2_free rfl | exact ce2_p rfl (Nat.le_of_ble_eq_true rfl) | exact ce2_tok rfl (Nat.le_of_ble_eq_true rfl) | exact ce2_untok | exact ce2_nil) ?_))
      · refine hR (s.pods.length - (i + 1)) _ _ (by omega) ⟨_, _, ?_, i + 1, false, true, es ++ [e], by omega, rfl, k2, (fun h => by cases h), rfl, rfl⟩
        exact telL [0, 1, 2, 3, 6] rfl (by decide) (by ((repeat (first | exact trivial | refine ⟨⟨Nat.le_of_ble_eq_true rfl, rfl, _, rfl, by first | exact trivial | exact ceL_flat rfl | exact ⟨rfl, ceLL_map (fun _ => rfl) _⟩ | exact (by ((repeat (first | exact trivial | refine ⟨by first | exact ce_flat rfl | exact .nil | exact .tok | exact .ren rfl (Nat.le_of_ble_eq_true rfl) | exact .rows (by ((repeat (first | exact .nil | refine .cons (by ((repeat (first | exact .nil | refine .cons (by first | exact .refl _ | exact .nil _) ?_)); first | done | fail)) ?_)); first | done | fail)), ?_⟩)); first | done | fail))⟩, ?_⟩)); first | done | fail)) (by repeat (first | exact FrC.nil | refine FrC.cons (by first | exact ce2_free rfl | exact ce2_p rfl (Nat.le_of_ble_eq_true rfl) | exact ce2_tok rfl (Nat.le_of_ble_eq_true rfl) | exact ce2_untok | exact ce2_nil) ?_))
    · ((conv => whnf); repeat' ((first | refine SEx.of (congrArg some hint2) ?_ | refine SChk.mk (by simp [roomOk]; omega) ?_ | refine SEx.of (map_get' (by omega) he) ?_ | refine SIf.ff rfl ?_ | refine SIf.tt rfl ?_ | refine SOpt.of rfl ?_ | refine SChk.mk rfl ?_ | refine SSame.mk rfl ?_ | refine SEx.of rfl ?_ | refine SOpt.no rfl ?_ | refine SWrap.w64 (by omega) (by omega) ?_ | refine SIf.dt (by omega) ?_ | refine SIf.df (by omega) ?_ | refine SIf.nt (by omega) ?_ | refine SIf.nf (by omega) ?_ | refine SChk.d (by omega) ?_ | refine SChk.ix (by omega) (by omega) ?_ | refine SChk.d3 (by omega) (by omega) (by omega) ?_ | refine SIf.ds (fun _ => ?_) (fun _ => ?_) | refine SIf.ns (fun _ => ?_) (fun _ => ?_) | refine SIf.mk (fun _ => ?_) (fun _ => ?_) | (intro r hr; cases r)) <;> (conv => whnf)))
      · refine hR (s.pods.length - (i + 1)) _ _ (by omega) ⟨_, _, ?_, i + 1, true, true, es, by omega, rfl, k0, (fun h => by cases h), rfl, rfl⟩
        exact telL [0, 1, 2, 3, 4] rfl (by decide) (by ((repeat (first | exact trivial | refine ⟨⟨Nat.le_of_ble_eq_true rfl, rfl, _, rfl, by first | exact trivial | exact ceL_flat rfl | exact ⟨rfl, ceLL_map (fun _ => rfl) _⟩ | exact (by ((repeat (first | exact trivial | refine ⟨by first | exact ce_flat rfl | exact .nil | exact .tok | exact .ren rfl (Nat.le_of_ble_eq_true rfl) | exact .rows (by ((repeat (first | exact .nil | refine .cons (by ((repeat (first | exact .nil | refine .cons (by first | exact .refl _ | exact .nil _) ?_)); first | done | fail)) ?_)); first | done | fail)), ?_⟩)); first | done | fail))⟩, ?_⟩)); first | done | fail)) (by repeat (first | exact FrC.nil | refine FrC.cons (by first | exact ce2_free rfl | exact ce2_p rfl (Nat.le_of_ble_eq_true rfl) | exact ce2_tok rfl (Nat.le_of_ble_eq_true rfl) | exact ce2_untok | exact ce2_nil) ?_))
      all_goals
        refine hR (s.pods.length - (i + 1)) _ _ (by omega) ⟨_, _, ?_, i + 1, true, true, es ++ [e], by omega, rfl, k2, (fun h => by cases h), rfl, rfl⟩
        exact telL [0, 1, 2, 3, 6] rfl (by decide) (by ((repeat (first | exact trivial | refine ⟨⟨Nat.le_of_ble_eq_true rfl, rfl, _, rfl, by first | exact trivial | exact ceL_flat rfl | exact ⟨rfl, ceLL_map (fun _ => rfl) _⟩ | exact (by ((repeat (first | exact trivial | refine ⟨by first | exact ce_flat rfl | exact .nil | exact .tok | exact .ren rfl (Nat.le_of_ble_eq_true rfl) | exact .rows (by ((repeat (first | exact .nil | refine .cons (by ((repeat (first | exact .nil | refine .cons (by first | exact .refl _ | exact .nil _) ?_)); first | done | fail)) ?_)); first | done | fail)), ?_⟩)); first | done | fail))⟩, ?_⟩)); first | done | fail)) (by repeat (first | exact FrC.nil | refine FrC.cons (by first | exact ce2_free rfl | exact ce2_p rfl (Nat.le_of_ble_eq_true rfl) | exact ce2_tok rfl (Nat.le_of_ble_eq_true rfl) | exact ce2_untok | exact ce2_nil) ?_))
  · have hwl := hg.len
    have hint1 : es.map podR ++ [podR p] = (es ++ [p]).map podR := by rw [List.map_append]; rfl
    have fin : ∀ ds : List PodD, SoFar s p i true ds → ∃ w, V.agg [.sl none 6 (s.nodes.map nodeR), .sl none 16 (ds.map podR)] = stV w ∧ WithOf s p w := fun ds hds =>
      ⟨⟨s.nodes, ds⟩, rfl, rfl, hds.sub, by have := hds.len; simp at this; show ds.length ≤ _; omega⟩
    have g0 : d = true → SoFar s p i true es := fun h => h ▸ hg
    cases b <;> cases d
    · obtain rfl : es = [] := hb rfl
      ((conv => whnf); repeat ((first | refine SIf.ff rfl ?_ | refine SIf.tt rfl ?_ | refine SOpt.of rfl ?_ | refine SChk.mk rfl ?_ | refine SSame.mk rfl ?_ | refine SEx.of rfl ?_ | refine SOpt.no rfl ?_ | refine SWrap.w64 (by omega) (by omega) ?_ | refine SIf.dt (by omega) ?_ | refine SIf.df (by omega) ?_ | refine SIf.nt (by omega) ?_ | refine SIf.nf (by omega) ?_ | refine SChk.d (by omega) ?_ | refine SChk.ix (by omega) (by omega) ?_ | refine SChk.d3 (by omega) (by omega) (by omega) ?_) <;> (conv => whnf)))
      exact pure_agg1 (by ((repeat (first | exact trivial | refine ⟨by first | exact ce_flat rfl | exact .nil | exact .tok | exact .ren rfl (Nat.le_of_ble_eq_true rfl) | exact .rows (by ((repeat (first | exact .nil | refine .cons (by ((repeat (first | exact .nil | refine .cons (by first | exact .refl _ | exact .nil _) ?_)); first | done | fail)) ?_)); first | done | fail)), ?_⟩)); first | done | fail)) rfl (fin ([] ++ [p]) hg.p)
    · obtain rfl : es = [] := hb rfl
      ((conv => whnf); repeat ((first | refine SIf.ff rfl ?_ | refine SIf.tt rfl ?_ | refine SOpt.of rfl ?_ | refine SChk.mk rfl ?_ | refine SSame.mk rfl ?_ | refine SEx.of rfl ?_ | refine SOpt.no rfl ?_ | refine SWrap.w64 (by omega) (by omega) ?_ | refine SIf.dt (by omega) ?_ | refine SIf.df (by omega) ?_ | refine SIf.nt (by omega) ?_ | refine SIf.nf (by omega) ?_ | refine SChk.d (by omega) ?_ | refine SChk.ix (by omega) (by omega) ?_ | refine SChk.d3 (by omega) (by omega) (by omega) ?_) <;> (conv => whnf)))
      exact pure_agg1 (by ((repeat (first | exact trivial | refine ⟨by first | exact ce_flat rfl | exact .nil | exact .tok | exact .ren rfl (Nat.le_of_ble_eq_true rfl) | exact .rows (by ((repeat (first | exact .nil | refine .cons (by ((repeat (first | exact .nil | refine .cons (by first | exact .refl _ | exact .nil _) ?_)); first | done | fail)) ?_)); first | done | fail)), ?_⟩)); first | done | fail)) rfl (fin [] hg)
    · ((conv => whnf); repeat ((first | refine SEx.of (congrArg some hint1) ?_ | refine SChk.mk (by simp [roomOk]; omega) ?_ | refine SIf.ff rfl ?_ | refine SIf.tt rfl ?_ | refine SOpt.of rfl ?_ | refine SChk.mk rfl ?_ | refine SSame.mk rfl ?_ | refine SEx.of rfl ?_ | refine SOpt.no rfl ?_ | refine SWrap.w64 (by omega) (by omega) ?_ | refine SIf.dt (by omega) ?_ | refine SIf.df (by omega) ?_ | refine SIf.nt (by omega) ?_ | refine SIf.nf (by omega) ?_ | refine SChk.d (by omega) ?_ | refine SChk.ix (by omega) (by omega) ?_ | refine SChk.d3 (by omega) (by omega) (by omega) ?_) <;> (conv => whnf)))
      exact pure_agg1 (by ((repeat (first | exact trivial | refine ⟨by first | exact ce_flat rfl | exact .nil | exact .tok | exact .ren rfl (Nat.le_of_ble_eq_true rfl) | exact .rows (by ((repeat (first | exact .nil | refine .cons (by ((repeat (first | exact .nil | refine .cons (by first | exact .refl _ | exact .nil _) ?_)); first | done | fail)) ?_)); first | done | fail)), ?_⟩)); first | done | fail)) rfl (fin (es ++ [p]) hg.p)
    · ((conv => whnf); repeat ((first | refine SIf.ff rfl ?_ | refine SIf.tt rfl ?_ | refine SOpt.of rfl ?_ | refine SChk.mk rfl ?_ | refine SSame.mk rfl ?_ | refine SEx.of rfl ?_ | refine SOpt.no rfl ?_ | refine SWrap.w64 (by omega) (by omega) ?_ | refine SIf.dt (by omega) ?_ | refine SIf.df (by omega) ?_ | refine SIf.nt (by omega) ?_ | refine SIf.nf (by omega) ?_ | refine SChk.d (by omega) ?_ | refine SChk.ix (by omega) (by omega) ?_ | refine SChk.d3 (by omega) (by omega) (by omega) ?_) <;> (conv => whnf)))
      exact pure_agg1 (by ((repeat (first | exact trivial | refine ⟨by first | exact ce_flat rfl | exact .nil | exact .tok | exact .ren rfl (Nat.le_of_ble_eq_true rfl) | exact .rows (by ((repeat (first | exact .nil | refine .cons (by ((repeat (first | exact .nil | refine .cons (by first | exact .refl _ | exact .nil _) ?_)); first | done | fail)) ?_)); first | done | fail)), ?_⟩)); first | done | fail)) rfl (fin es hg)
end
end Go.Eng
