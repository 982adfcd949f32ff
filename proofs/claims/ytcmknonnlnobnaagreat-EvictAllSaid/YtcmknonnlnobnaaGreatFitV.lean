/-
Amounts, by the document: known, added, summed.
-/
import Derived.Test.YtcmknonnlnobnaaGreatFitC
import Derived.Test.YtcmknonnlnobnaaGreatFitA
set_option linter.unusedVariables false
set_option linter.unusedSimpArgs false
set_option maxHeartbeats 4000000
set_option maxRecDepth 10000
namespace Go.Eng
open Go
def knownD (r : ResD) : Bool := inD r.a && (inD r.b && inD r.c)
def Known (r : ResD) : Prop := (0 ≤ r.a ∧ r.a ≤ 4611686018427387904) ∧ (0 ≤ r.b ∧ r.b ≤ 4611686018427387904) ∧ 0 ≤ r.c ∧ r.c ≤ 4611686018427387904
theorem knownD_t {r : ResD} (h : Known r) : knownD r = true := by
 unfold Known at h
 simp [knownD, inD]
 omega
theorem knownD_f {r : ResD} (h : ¬ Known r) : knownD r = false := by
 cases hk : knownD r with
 | false => rfl
 | true =>
   refine absurd ?_ h
   simp [knownD, inD] at hk
   unfold Known
   omega
section
variable {P : Program} (hG : FnsOk P AF.fns.get)
include hG
theorem rknown_ok (r : ResD) : Pure P 313 [resV r] (· = .b (knownD r)) := by
 refine pure_fn (hG _ AF.f313 rfl) rfl ?_
 ((conv => whnf); repeat' ((first | refine zz ?_ | refine SLoopZ.un rfl ?_ | refine SIf.ds (fun _ => ?_) (fun _ => ?_) | refine SIf.ns (fun _ => ?_) (fun _ => ?_) | refine SIf.mk (fun _ => ?_) (fun _ => ?_) | (intro r hr; cases r)) <;> (conv => whnf)))
 all_goals (refine pure_free rfl ?_)
 all_goals first | (rw [knownD_t (by unfold Known; omega)]; done) | (rw [knownD_f (by unfold Known; omega)]; done)
theorem radd_ok (x y : ResD) : Pure P 236 [resV x, resV y] (· = resO (addD x y)) := by
 have kx := rknown_ok hG x
 have ky := rknown_ok hG y
 refine pure_fn (hG _ AF.f236 rfl) rfl ?_
 by_cases hx : Known x
 · rw [knownD_t hx] at kx
   by_cases hy : Known y
   · rw [knownD_t hy] at ky
     unfold Known at hx hy
     ((conv => whnf); repeat' ((first | refine cA (Pure.go kx rfl) ?_ | refine cA (Pure.go ky rfl) ?_ | refine zz ?_ | refine SLoopZ.un rfl ?_ | refine SIf.ds (fun _ => ?_) (fun _ => ?_) | refine SIf.ns (fun _ => ?_) (fun _ => ?_) | refine SIf.mk (fun _ => ?_) (fun _ => ?_) | (intro r hr; cases r)) <;> (conv => whnf)))
     all_goals (refine pure_free rfl ?_)
     all_goals first | (rw [addD_f (by omega)]; rfl) | (rw [addD_t (by omega)]; rfl)
   · rw [knownD_f hy] at ky
     unfold Known at hx hy
     ((conv => whnf); repeat' ((first | refine cA (Pure.go kx rfl) ?_ | refine cA (Pure.go ky rfl) ?_ | refine zz ?_ | refine SLoopZ.un rfl ?_ | refine SIf.ds (fun _ => ?_) (fun _ => ?_) | refine SIf.ns (fun _ => ?_) (fun _ => ?_) | refine SIf.mk (fun _ => ?_) (fun _ => ?_) | (intro r hr; cases r)) <;> (conv => whnf)))
     refine pure_free rfl ?_
     rw [addD_f (by omega)]
     rfl
 · rw [knownD_f hx] at kx
   unfold Known at hx
   ((conv => whnf); repeat' ((first | refine cA (Pure.go kx rfl) ?_ | refine zz ?_ | refine SLoopZ.un rfl ?_ | refine SIf.ds (fun _ => ?_) (fun _ => ?_) | refine SIf.ns (fun _ => ?_) (fun _ => ?_) | refine SIf.mk (fun _ => ?_) (fun _ => ?_) | (intro r hr; cases r)) <;> (conv => whnf)))
   refine pure_free rfl ?_
   rw [addD_f (by omega)]
   rfl
theorem rsum_ok (l : List ResD) (hl : LenOk l) : Pure P 312 [.sl none 3 (l.map resR)] (· = resO (sumD ⟨0, 0, 0⟩ l)) := by
 have hlm : (l.map resR).length = l.length := List.length_map _
 unfold LenOk at hl
 refine pure_fn (hG _ AF.f312 rfl) rfl ?_
 ((conv => whnf); repeat ((first | refine zz ?_) <;> (conv => whnf)))
 refine SLoopZ.by (fun q fr st => ∃ (i : Nat) (s : ResD) (ok : Bool), i ≤ l.length ∧ q = l.length - i ∧ (ok = true → sumD ⟨0, 0, 0⟩ l = sumD s (l.drop i)) ∧ (ok = false → s = ⟨0, 0, 0⟩ ∧ sumD ⟨0, 0, 0⟩ l = none) ∧
  fr = [(6, .i .i64 i), (5, .b ok), (4, .p (.l 1) 0), (2, .p (.l 0) 0), (0, .sl none 3 (l.map resR))] ∧ st = ⟨noG, ⟨2, [(1, .cs (resR s)), (0, .cs (resR ⟨0, 0, 0⟩))]⟩⟩)
  l.length ⟨_, _, ?_, 0, ⟨0, 0, 0⟩, true, Nat.zero_le _, rfl, fun _ => rfl, (fun h => by cases h), rfl, rfl⟩ ?_
 · exact tL [0, 1]
 rintro q fr st ⟨i, s, ok, hi, rfl, h1, h2, rfl, rfl⟩ R hR
 (conv => whnf)
 refine SIf.ds (fun hlt => ?_) (fun hge => ?_)
 · have hi' : i < l.length := by omega
   have he := gE hi'
   cases ok
   · obtain ⟨rfl, hs⟩ := h2 rfl
     rw [hs]
     ((conv => whnf); repeat ((first | refine zz ?_) <;> (conv => whnf)))
     exact pure_free rfl rfl
   · have h1 := h1 rfl
     rw [List.drop_eq_getElem_cons hi'] at h1
     generalize l[i] = e at he h1
     have ha := radd_ok hG s e
     rw [sumD] at h1
     cases hq : addD s e with
     | none =>
       rw [hq] at ha h1
       ((conv => whnf); repeat ((first | refine cA (Pure.go ha rfl) ?_ | refine ye (map_get' (by omega) he) ?_ | refine zz ?_) <;> (conv => whnf)))
       refine hR (l.length - (i + 1)) _ _ (by omega) ⟨_, _, ?_, i + 1, ⟨0, 0, 0⟩, false, by omega, rfl, (fun h => by cases h), fun _ => ⟨rfl, h1⟩, rfl, rfl⟩
       exact tL [0, 1]
     | some t =>
       rw [hq] at ha h1
       ((conv => whnf); repeat ((first | refine cA (Pure.go ha rfl) ?_ | refine ye (map_get' (by omega) he) ?_ | refine zz ?_) <;> (conv => whnf)))
       refine hR (l.length - (i + 1)) _ _ (by omega) ⟨_, _, ?_, i + 1, t, true, by omega, rfl, fun _ => h1, (fun h => by cases h), rfl, rfl⟩
       exact tL [0, 1]
 · cases ok
   · obtain ⟨rfl, hs⟩ := h2 rfl
     rw [hs]
     ((conv => whnf); repeat ((first | refine zz ?_) <;> (conv => whnf)))
     exact pure_free rfl rfl
   · have h1 := h1 rfl
     rw [List.drop_eq_nil_of_le (by omega), sumD] at h1
     rw [h1]
     ((conv => whnf); repeat ((first | refine zz ?_) <;> (conv => whnf)))
     exact pure_free rfl rfl
end
end Go.Eng
/-
One node alone, by the document: amounts, labels, taints.
-/
namespace Go.Eng
open Go
section
variable {P : Program} (hG : FnsOk P AF.fns.get)
include hG
theorem rbears_ok (t : TolD) (x : PairD) : Pure P 239 [.agg (tolR t), .agg (pairR x)] (· = .b (bearsD t x)) := by
 refine pure_fn (hG _ AF.f239 rfl) rfl ?_
 ((conv => whnf); repeat' ((first | refine zz ?_ | refine SIf.ds (fun _ => ?_) (fun _ => ?_) | refine SIf.ns (fun _ => ?_) (fun _ => ?_) | refine SIf.mk (fun _ => ?_) (fun _ => ?_) | (intro r hr; cases r)) <;> (conv => whnf)))
 all_goals (refine pure_free rfl ?_)
 all_goals simp_all [bearsD]
theorem rfits_ok (x y : ResD) : Pure P 237 [resV x, resV y] (· = .b (fitsD x y)) := by
 refine pure_fn (hG _ AF.f237 rfl) rfl ?_
 ((conv => whnf); repeat' ((first | refine zz ?_ | refine SIf.ds (fun _ => ?_) (fun _ => ?_) | refine SIf.ns (fun _ => ?_) (fun _ => ?_) | refine SIf.mk (fun _ => ?_) (fun _ => ?_) | (intro r hr; cases r)) <;> (conv => whnf)))
 all_goals (refine pure_free rfl ?_)
 all_goals first | (simp_all [fitsD]; done) | (simp [fitsD]; omega)
end
end Go.Eng
/-
Labels and terms, by the document.
-/
namespace Go.Eng
open Go
section
variable {P : Program} (hG : FnsOk P AF.fns.get)
include hG
theorem rlabel_ok (l : List PairD) (key : Str) (hl : LenOk l) : Pure P 238 [.sl none 2 (l.map pairR), .s key] (· = .tup [.s (getD l key).1, .b (getD l key).2]) := by
 have hlm : (l.map pairR).length = l.length := List.length_map _
 unfold LenOk at hl
 refine pure_fn (hG _ AF.f238 rfl) rfl ?_
 ((conv => whnf); repeat ((first | refine zz ?_) <;> (conv => whnf)))
 refine SLoopZ.by (fun q fr st => ∃ i : Nat, i ≤ l.length ∧ q = l.length - i ∧ NoneYet (fun e => e.key == key) l i ∧ fr = [(9, .i .i64 i), (8, .i .i64 (l.map pairR).length), (1, .s key), (0, .sl none 2 (l.map pairR))] ∧ st = gst noG)
  l.length ⟨_, _, ?_, 0, Nat.zero_le _, rfl, NoneYet.zero, rfl, rfl⟩ ?_
 · exact tL0
 rintro q fr st ⟨i, hi, rfl, hok, rfl, rfl⟩ R hR
 (conv => whnf)
 refine SIf.ds (fun hlt => ?_) (fun hge => ?_)
 · have hi' : i < l.length := by omega
   have he := gE hi'
   generalize l[i] = e at he
   ((conv => whnf); repeat ((first | refine ye (map_get' (by omega) he) ?_ | refine zz ?_) <;> (conv => whnf)))
   refine SIf.mk (fun hp => ?_) (fun hp => ?_)
   · ((conv => whnf); repeat ((first | refine ye (map_get' (by omega) he) ?_ | refine zz ?_) <;> (conv => whnf)))
     refine pure_free rfl ?_
     simp only [getD, find_some he hp hok]
   · ((conv => whnf); repeat ((first | refine zz ?_) <;> (conv => whnf)))
     refine hR (l.length - (i + 1)) _ _ (by omega) ⟨_, _, ?_, i + 1, by omega, rfl, hok.succ he hp, rfl, rfl⟩
     exact tL0
 · ((conv => whnf); repeat ((first | refine zz ?_) <;> (conv => whnf)))
   refine pure_free rfl ?_
   simp only [getD, find_none (hok.all (by omega))]
theorem rmatch_ok (ts : List TermD) (l : List PairD) (ht : TermsOk ts) (hl : LenOk l) : Pure P 125 [.sl none 3 (ts.map termR), .sl none 2 (l.map pairR)] (· = .b (ts.all fun t => holdsD t l)) := by
 have htm : (ts.map termR).length = ts.length := List.length_map _
 have htl := ht.len
 unfold LenOk at htl
 refine pure_fn (hG _ AF.f125 rfl) rfl ?_
 ((conv => whnf); repeat ((first | refine zz ?_) <;> (conv => whnf)))
 refine SLoopZ.by (fun q fr st => ∃ i : Nat, i ≤ ts.length ∧ q = ts.length - i ∧ NoneYet (fun t => !holdsD t l) ts i ∧
  fr = [(14, .i .i64 i), (13, .i .i64 (ts.map termR).length), (1, .sl none 2 (l.map pairR)), (0, .sl none 3 (ts.map termR))] ∧ st = gst noG)
  ts.length ⟨_, _, ?_, 0, Nat.zero_le _, rfl, NoneYet.zero, rfl, rfl⟩ ?_
 · exact tL0
 rintro q fr st ⟨i, hi, rfl, hok, rfl, rfl⟩ R hR
 (conv => whnf)
 refine SIf.ds (fun hlt => ?_) (fun hge => ?_)
 · have hi' : i < ts.length := by omega
   have he := gE hi'
   have hm := ht.each _ (List.getElem_mem hi')
   generalize ts[i] = e at he hm
   have hvm : (e.vals.map strR).length = e.vals.length := List.length_map _
   unfold TermD.ok LenOk at hm
   have hgl := rlabel_ok hG l e.key hl
   obtain ⟨v, hv⟩ : ∃ v, v = getD l e.key := ⟨_, rfl⟩
   rw [← hv] at hgl
   obtain ⟨v1, v2⟩ := v
   have hh : holdsD e l = if e.kind = 1 then (v2 && e.vals.any fun x => v1 == x) else if e.kind = 2 then !(v2 && e.vals.any fun x => v1 == x) else if e.kind = 3 then v2 else if e.kind = 4 then !v2 else false := by
    simp only [holdsD, ← hv]
   ((conv => whnf); repeat ((first | refine cA (Pure.go hgl rfl) ?_ | refine ye (map_get' (by omega) he) ?_ | refine zz ?_) <;> (conv => whnf)))
   refine SLoopZ.by (fun q fr st => ∃ (j : Nat) (d : Bool), j ≤ e.vals.length ∧ q = e.vals.length - j ∧ d = (v2 && (e.vals.take j).any fun x => v1 == x) ∧
    fr = [(33, .i .i64 j), (32, .i .i64 (e.vals.map strR).length), (31, .sl none 1 (e.vals.map strR)), (8, .b d), (7, .b v2), (6, .s v1), (5, .i .i64 i), (14, .i .i64 i), (13, .i .i64 (ts.map termR).length), (1, .sl none 2 (l.map pairR)), (0, .sl none 3 (ts.map termR))] ∧ st = gst noG)
    e.vals.length ⟨_, _, ?_, 0, false, Nat.zero_le _, rfl, by simp, rfl, rfl⟩ ?_
   · exact tL0
   rintro q fr st ⟨j, d, hj, rfl, hd, rfl, rfl⟩ R2 hR2
   (conv => whnf)
   refine SIf.ds (fun hlt2 => ?_) (fun hge2 => ?_)
   · have hj' : j < e.vals.length := by omega
     have hf := gE hj'
     generalize e.vals[j] = x at hf
     have hsw : (x == v1) = (v1 == x) := by
      by_cases h : x = v1
      · rw [h]
      · rw [beq_false_of_ne h, beq_false_of_ne (Ne.symm h)]
     have hst : (v2 && (e.vals.take (j + 1)).any fun x => v1 == x) = (d || (v2 && x == v1)) := by
      rw [take_succ' hf, List.any_append, hd, hsw]
      cases v2 <;> simp
     cases d <;> cases v2
     all_goals ((conv => whnf); repeat ((first | refine ye (map_get' (by omega) hf) ?_ | refine zz ?_) <;> (conv => whnf)))
     all_goals
      refine hR2 (e.vals.length - (j + 1)) _ _ (by omega) ⟨_, _, ?_, j + 1, _, by omega, rfl, hst.symm, rfl, rfl⟩
      exact tL0
   · have hall : d = (v2 && e.vals.any fun x => v1 == x) := by rw [hd, List.take_of_length_le (by omega)]
     rw [← hall] at hh
     obtain ⟨c, hc⟩ : ∃ c, c = holdsD e l := ⟨_, rfl⟩
     rw [← hc] at hh
     cases c <;> cases d <;> cases v2
     all_goals ((conv => whnf); repeat' ((first | refine ye (map_get' (by omega) he) ?_ | refine zz ?_ | refine SIf.ds (fun _ => ?_) (fun _ => ?_) | refine SIf.ns (fun _ => ?_) (fun _ => ?_) | refine SIf.mk (fun _ => ?_) (fun _ => ?_) | (intro r hr; cases r)) <;> (conv => whnf)))
     all_goals try (exfalso; clear hall hd hR2 hgl hv hok hR; revert hh; simp_all; done)
     all_goals first
      | (refine pure_free rfl ?_; simp only [List.all_eq_not_any_not]; rw [any_some he (by rw [← hc]; rfl)]; rfl)
      | (refine hR (ts.length - (i + 1)) _ _ (by omega) ⟨_, _, ?_, i + 1, by omega, rfl, hok.succ he (by rw [← hc]; rfl), rfl, rfl⟩; exact tL0)
 · ((conv => whnf); repeat ((first | refine zz ?_) <;> (conv => whnf)))
   refine pure_free rfl ?_
   simp only [List.all_eq_not_any_not]
   rw [any_none (hok.all (by omega))]
   rfl
end
end Go.Eng
