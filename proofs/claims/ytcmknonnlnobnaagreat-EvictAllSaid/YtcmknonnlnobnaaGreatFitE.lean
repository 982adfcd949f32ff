/-
One node alone, by the document: what is on it, used, room, ports, what is wanted, what is borne.
-/
import Derived.Test.YtcmknonnlnobnaaGreatFitV
set_option linter.unusedVariables false
set_option linter.unusedSimpArgs false
set_option maxHeartbeats 4000000
set_option maxRecDepth 10000
namespace Go.Eng
open Go
section
variable {P : Program} (hG : FnsOk P AF.fns.get)
include hG
theorem ron_ok (s : StD) (node : Str) (hs : s.ok) : Pure P 53 [stV s, .s node] (· = .sl none 16 ((onD s node).map podR)) := by
 have hlm : (s.pods.map podR).length = s.pods.length := List.length_map _
 have hl := hs.pods
 have hsm := hs.some
 unfold LenOk at hl
 obtain ⟨f, hf⟩ : ∃ f : PodD → Bool, f = fun p => p.node == node && !(node == []) := ⟨_, rfl⟩
 refine pure_fn (hG _ AF.f53 rfl) rfl ?_
 ((conv => whnf); repeat ((first | refine zz ?_) <;> (conv => whnf)))
 refine SLoopZ.by (fun q fr st => ∃ (i : Nat) (b : Bool) (es : List PodD), i ≤ s.pods.length ∧ q = s.pods.length - i ∧ es = (s.pods.take i).filter f ∧ (b = false → es = []) ∧
  fr = [(10, .i .i64 i), (9, .i .i64 (s.pods.map podR).length), (5, accV b 1 16 (es.map podR)), (2, .p (.l 0) 0), (1, .s node)] ∧ st = accS b 1 [(0, .cs [.sl none 6 (s.nodes.map nodeR), .sl none 16 (s.pods.map podR)])])
  s.pods.length ⟨_, _, ?_, 0, false, [], Nat.zero_le _, rfl, rfl, fun _ => rfl, rfl, rfl⟩ ?_
 · exact tL [0]
 rintro q fr st ⟨i, b, es, hi, rfl, hes, hb, rfl, rfl⟩ R hR
 have hesl : es.length ≤ i := by
  rw [hes]
  exact Nat.le_trans (List.length_filter_le _ _) (List.length_take_le _ _)
 (conv => whnf)
 refine SIf.ds (fun hlt => ?_) (fun hge => ?_)
 · have hi' : i < s.pods.length := by omega
   have he := gE hi'
   generalize s.pods[i] = e at he
   have h1 : f e = true → es ++ [e] = (s.pods.take (i + 1)).filter f := fun h => by
    rw [take_succ' he, List.filter_append, ← hes]
    simp [h]
   have h0 : f e = false → es = (s.pods.take (i + 1)).filter f := fun h => by
    rw [take_succ' he, List.filter_append, ← hes]
    simp [h]
   have hint : es.map podR ++ [podR e] = (es ++ [e]).map podR := by rw [List.map_append]; rfl
   cases b
   · obtain rfl : es = [] := hb rfl
     ((conv => whnf); repeat' ((first | refine ye (map_get' (by omega) he) ?_ | refine zz ?_ | refine SIf.ds (fun _ => ?_) (fun _ => ?_) | refine SIf.ns (fun _ => ?_) (fun _ => ?_) | refine SIf.mk (fun _ => ?_) (fun _ => ?_) | (intro r hr; cases r)) <;> (conv => whnf)))
     · have hfe : f e = true := by rw [hf]; simp_all
       refine hR (s.pods.length - (i + 1)) _ _ (by omega) ⟨_, _, ?_, i + 1, true, [] ++ [e], by omega, rfl, h1 hfe, (fun h => by cases h), rfl, rfl⟩
       exact tL [0, 2]
     all_goals
      have hfe : f e = false := by rw [hf]; simp_all
      refine hR (s.pods.length - (i + 1)) _ _ (by omega) ⟨_, _, ?_, i + 1, false, [], by omega, rfl, h0 hfe, fun _ => rfl, rfl, rfl⟩
      exact tL [0]
   · ((conv => whnf); repeat' ((first | refine ye (congrArg some hint) ?_ | refine SChk.mk (by simp [roomOk]; omega) ?_ | refine ye (map_get' (by omega) he) ?_ | refine zz ?_ | refine SIf.ds (fun _ => ?_) (fun _ => ?_) | refine SIf.ns (fun _ => ?_) (fun _ => ?_) | refine SIf.mk (fun _ => ?_) (fun _ => ?_) | (intro r hr; cases r)) <;> (conv => whnf)))
     · have hfe : f e = true := by rw [hf]; simp_all
       refine hR (s.pods.length - (i + 1)) _ _ (by omega) ⟨_, _, ?_, i + 1, true, es ++ [e], by omega, rfl, h1 hfe, (fun h => by cases h), rfl, rfl⟩
       exact tL [0, 3]
     all_goals
       have hfe : f e = false := by rw [hf]; simp_all
       refine hR (s.pods.length - (i + 1)) _ _ (by omega) ⟨_, _, ?_, i + 1, true, es, by omega, rfl, h0 hfe, (fun h => by cases h), rfl, rfl⟩
       exact tL [0, 1]
 · have hall : es = onD s node := by
    rw [hes, List.take_of_length_le (by omega), hf]
    rfl
   rw [← hall]
   cases b
   · obtain rfl : es = [] := hb rfl
     ((conv => whnf); repeat ((first | refine zz ?_) <;> (conv => whnf)))
     exact pure_nil rfl
   · ((conv => whnf); repeat ((first | refine zz ?_) <;> (conv => whnf)))
     exact pure_tok rfl
theorem rused_ok (s : StD) (node : Str) (hs : s.ok) : Pure P 235 [stV s, .s node] (· = resO (usedD s node)) := by
 have hon := ron_ok hG s node hs
 have hol : (onD s node).length ≤ s.pods.length := List.length_filter_le _ _
 rw [usedD]
 generalize onD s node = l at hon hol
 have hlm : (l.map podR).length = l.length := List.length_map _
 have hl := hs.pods
 have hsm := hs.some
 unfold LenOk at hl
 refine pure_fn (hG _ AF.f235 rfl) rfl ?_
 ((conv => whnf); repeat ((first | refine cA (Pure.go hon rfl) ?_ | refine zz ?_) <;> (conv => whnf)))
 refine SLoopZ.by (fun q fr st => ∃ (i : Nat) (b : Bool) (es : List ResD), i ≤ l.length ∧ q = l.length - i ∧ es = (l.take i).map (·.req) ∧ (b = false → es = []) ∧
  fr = [(13, .i .i64 i), (12, .i .i64 (l.map podR).length), (11, .sl none 16 (l.map podR)), (6, accV b 1 3 (es.map resR)), (4, .p (.l 0) 0)] ∧ st = accS b 1 [(0, .cs (resR ⟨0, 0, 0⟩))])
  l.length ⟨_, _, ?_, 0, false, [], Nat.zero_le _, rfl, rfl, fun _ => rfl, rfl, rfl⟩ ?_
 · exact tL [1]
 rintro q fr st ⟨i, b, es, hi, rfl, hes, hb, rfl, rfl⟩ R hR
 have hesl : es.length ≤ i := by
  rw [hes, List.length_map]
  exact List.length_take_le _ _
 (conv => whnf)
 refine SIf.ds (fun hlt => ?_) (fun hge => ?_)
 · have hi' : i < l.length := by omega
   have he := gE hi'
   generalize l[i] = e at he
   have h1 : es ++ [e.req] = (l.take (i + 1)).map (·.req) := by rw [take_succ' he, List.map_append, ← hes]; rfl
   have hint : es.map resR ++ [resR e.req] = (es ++ [e.req]).map resR := by rw [List.map_append]; rfl
   cases b
   · obtain rfl : es = [] := hb rfl
     ((conv => whnf); repeat ((first | refine ye (map_get' (by omega) he) ?_ | refine zz ?_) <;> (conv => whnf)))
     refine hR (l.length - (i + 1)) _ _ (by omega) ⟨_, _, ?_, i + 1, true, [] ++ [e.req], by omega, rfl, h1, (fun h => by cases h), rfl, rfl⟩
     exact tL [0, 3]
   · ((conv => whnf); repeat ((first | refine ye (congrArg some hint) ?_ | refine SChk.mk (by simp [roomOk]; omega) ?_ | refine ye (map_get' (by omega) he) ?_ | refine zz ?_) <;> (conv => whnf)))
     refine hR (l.length - (i + 1)) _ _ (by omega) ⟨_, _, ?_, i + 1, true, es ++ [e.req], by omega, rfl, h1, (fun h => by cases h), rfl, rfl⟩
     exact tL [0, 4]
 · have hall : es = l.map (·.req) := by rw [hes, List.take_of_length_le (by omega)]
   have hsum := rsum_ok hG es (by unfold LenOk; omega)
   rw [← hall]
   cases b
   · obtain rfl : es = [] := hb rfl
     cases hq : sumD ⟨0, 0, 0⟩ [] <;> rw [hq] at hsum
     all_goals ((conv => whnf); repeat ((first | refine cA (Pure.call1 hsum nwA rfl) ?_ | refine zz ?_) <;> (conv => whnf)))
     all_goals exact pure_free rfl rfl
   · cases hq : sumD ⟨0, 0, 0⟩ es <;> rw [hq] at hsum
     all_goals ((conv => whnf); repeat ((first | refine cA (Pure.call1 hsum nwA rfl) ?_ | refine zz ?_) <;> (conv => whnf)))
     all_goals exact pure_free rfl rfl
theorem rroom_ok (s : StD) (p : PodD) (n : NodeD) (hs : s.ok) : Pure P 123 [stV s, .agg (podR p), .agg (nodeR n)] (· = .b (roomD s p n)) := by
 have hu := rused_ok hG s n.name hs
 refine pure_fn (hG _ AF.f123 rfl) rfl ?_
 simp only [roomD]
 cases hq : usedD s n.name with
 | none =>
   rw [hq] at hu
   ((conv => whnf); repeat ((first | refine cA (Pure.go hu rfl) ?_ | refine zz ?_) <;> (conv => whnf)))
   exact pure_free rfl rfl
 | some u =>
   rw [hq] at hu
   have ha := radd_ok hG u p.req
   dsimp only
   cases ht : addD u p.req with
   | none =>
     rw [ht] at ha
     ((conv => whnf); repeat ((first | refine cA (Pure.go hu rfl) ?_ | refine cA (Pure.go ha rfl) ?_ | refine zz ?_) <;> (conv => whnf)))
     exact pure_free rfl rfl
   | some t =>
     rw [ht] at ha
     ((conv => whnf); repeat ((first | refine cA (Pure.go hu rfl) ?_ | refine cA (Pure.go ha rfl) ?_ | refine cA (Pure.go (rfits_ok hG t n.cap) rfl) ?_ | refine zz ?_) <;> (conv => whnf)))
     exact pure_free rfl rfl
theorem rborne_ok (tols : List TolD) (ts : List PairD) (ht : LenOk tols) (hl : LenOk ts) : Pure P 126 [.sl none 3 (tols.map tolR), .sl none 2 (ts.map pairR)] (· = .b (allD tols ts)) := by
 have hlm : (ts.map pairR).length = ts.length := List.length_map _
 have hlt : (tols.map tolR).length = tols.length := List.length_map _
 unfold LenOk at hl ht
 refine pure_fn (hG _ AF.f126 rfl) rfl ?_
 ((conv => whnf); repeat ((first | refine zz ?_) <;> (conv => whnf)))
 refine SLoopZ.by (fun q fr st => ∃ i : Nat, i ≤ ts.length ∧ q = ts.length - i ∧ NoneYet (fun x => !tols.any fun t => bearsD t x) ts i ∧ fr = [(10, .i .i64 i), (9, .i .i64 (ts.map pairR).length), (1, .sl none 2 (ts.map pairR)), (0, .sl none 3 (tols.map tolR))] ∧ st = gst noG)
  ts.length ⟨_, _, ?_, 0, Nat.zero_le _, rfl, NoneYet.zero, rfl, rfl⟩ ?_
 · exact tL0
 rintro q fr st ⟨i, hi, rfl, hok, rfl, rfl⟩ R hR
 (conv => whnf)
 refine SIf.ds (fun hlt => ?_) (fun hge => ?_)
 · have hi' : i < ts.length := by omega
   have he := gE hi'
   generalize ts[i] = e at he
   ((conv => whnf); repeat ((first | refine zz ?_) <;> (conv => whnf)))
   refine SLoopZ.by (fun q fr st => ∃ (j : Nat) (d : Bool), j ≤ tols.length ∧ q = tols.length - j ∧ d = (tols.take j).any (fun t => bearsD t e) ∧
    fr = [(15, .i .i64 j), (14, .i .i64 (tols.map tolR).length), (6, .b d), (5, .i .i64 i), (10, .i .i64 i), (9, .i .i64 (ts.map pairR).length), (1, .sl none 2 (ts.map pairR)), (0, .sl none 3 (tols.map tolR))] ∧ st = gst noG)
    tols.length ⟨_, _, ?_, 0, false, Nat.zero_le _, rfl, rfl, rfl, rfl⟩ ?_
   · exact tL0
   rintro q fr st ⟨j, d, hj, rfl, hd, rfl, rfl⟩ R2 hR2
   (conv => whnf)
   refine SIf.ds (fun hlt2 => ?_) (fun hge2 => ?_)
   · have hj' : j < tols.length := by omega
     have hf := gE hj'
     generalize tols[j] = t at hf
     have hst : (tols.take (j + 1)).any (fun t => bearsD t e) = (d || bearsD t e) := by
      rw [take_succ' hf, List.any_append, ← hd]
      simp
     cases d
     all_goals ((conv => whnf); repeat ((first | refine cA (Pure.go (rbears_ok hG t e) rfl) ?_ | refine ye (map_get' (by omega) hf) ?_ | refine ye (map_get' (by omega) he) ?_ | refine zz ?_) <;> (conv => whnf)))
     all_goals
      refine hR2 (tols.length - (j + 1)) _ _ (by omega) ⟨_, _, ?_, j + 1, _, by omega, rfl, hst.symm, rfl, rfl⟩
      exact tL0
   · have hall : d = tols.any (fun t => bearsD t e) := by rw [hd, List.take_of_length_le (by omega)]
     cases d
     · ((conv => whnf); repeat ((first | refine zz ?_) <;> (conv => whnf)))
       refine pure_free rfl ?_
       simp only [allD, List.all_eq_not_any_not]
       rw [any_some he (by rw [← hall]; rfl)]
       rfl
     · ((conv => whnf); repeat ((first | refine zz ?_) <;> (conv => whnf)))
       refine hR (ts.length - (i + 1)) _ _ (by omega) ⟨_, _, ?_, i + 1, by omega, rfl, hok.succ he (by rw [← hall]; rfl), rfl, rfl⟩
       exact tL0
 · ((conv => whnf); repeat ((first | refine zz ?_) <;> (conv => whnf)))
   refine pure_free rfl ?_
   simp only [allD, List.all_eq_not_any_not]
   rw [any_none (hok.all (by omega))]
   rfl
end
end Go.Eng
/-
One node alone, by the document: ports, what is wanted.
-/
namespace Go.Eng
open Go
section
variable {P : Program} (hG : FnsOk P AF.fns.get)
include hG
theorem rports_ok (s : StD) (p : PodD) (n : NodeD) (hs : s.ok) (hp : LenOk p.ports) : Pure P 124 [stV s, .agg (podR p), .agg (nodeR n)] (· = .b (portsD s p n)) := by
 have hon := ron_ok hG s n.name hs
 have hspec : portsD s p n = !((onD s n.name).any fun q => q.ports.any fun x => p.ports.any fun y => decide (x = y)) := by
  have hfun : (fun q : PodD => q.node == n.name && (!(q.node == []) && q.ports.any fun x => p.ports.any fun y => decide (x = y))) = (fun q => (q.node == n.name && !(n.name == [])) && q.ports.any fun x => p.ports.any fun y => decide (x = y)) := by
   funext q
   by_cases h : q.node = n.name
   · rw [h]
     exact (Bool.and_assoc _ _ _).symm
   · have h' : (q.node == n.name) = false := by simpa using h
     rw [h']
     rfl
  simp only [portsD, onD, List.any_filter]
  rw [hfun]
 have hme : ∀ q ∈ onD s n.name, LenOk q.ports := fun q hq => (hs.pod q (List.mem_filter.1 hq).1).ports
 have hol : LenOk (onD s n.name) := Nat.le_trans (List.length_filter_le _ _) hs.pods
 rw [hspec]
 generalize onD s n.name = l at hon hme hol
 have hlm : (l.map podR).length = l.length := List.length_map _
 have hpm : (p.ports.map intR).length = p.ports.length := List.length_map _
 unfold LenOk at hol hp
 refine pure_fn (hG _ AF.f124 rfl) rfl ?_
 ((conv => whnf); repeat ((first | refine cA (Pure.go hon rfl) ?_ | refine zz ?_) <;> (conv => whnf)))
 refine SLoopZ.by (fun q fr st => ∃ i : Nat, i ≤ l.length ∧ q = l.length - i ∧ NoneYet (fun q => q.ports.any fun x => p.ports.any fun y => decide (x = y)) l i ∧
  fr = [(18, .i .i64 i), (17, .i .i64 (l.map podR).length), (16, .sl none 16 (l.map podR)), (4, .p (.l 0) 0)] ∧ st = ⟨noG, ⟨1, [(0, .cs (podR p))]⟩⟩)
  l.length ⟨_, _, ?_, 0, Nat.zero_le _, rfl, NoneYet.zero, rfl, rfl⟩ ?_
 · exact tL [1]
 rintro q fr st ⟨i, hi, rfl, hok, rfl, rfl⟩ R hR
 (conv => whnf)
 refine SIf.ds (fun hlt => ?_) (fun hge => ?_)
 · have hi' : i < l.length := by omega
   have he := gE hi'
   have hm := hme _ (List.getElem_mem hi')
   generalize l[i] = e at he hm
   have hem : (e.ports.map intR).length = e.ports.length := List.length_map _
   unfold LenOk at hm
   ((conv => whnf); repeat ((first | refine ye (map_get' (by omega) he) ?_ | refine zz ?_) <;> (conv => whnf)))
   refine SLoopZ.by (fun q fr st => ∃ j : Nat, j ≤ e.ports.length ∧ q = e.ports.length - j ∧ NoneYet (fun x => p.ports.any fun y => decide (x = y)) e.ports j ∧
    fr = [(25, .i .i64 j), (24, .i .i64 (e.ports.map intR).length), (23, .sl none 1 (e.ports.map intR)), (18, .i .i64 i), (17, .i .i64 (l.map podR).length), (16, .sl none 16 (l.map podR)), (4, .p (.l 0) 0)] ∧ st = ⟨noG, ⟨1, [(0, .cs (podR p))]⟩⟩)
    e.ports.length ⟨_, _, ?_, 0, Nat.zero_le _, rfl, NoneYet.zero, rfl, rfl⟩ ?_
   · exact tL [0]
   rintro q fr st ⟨j, hj, rfl, hok2, rfl, rfl⟩ R2 hR2
   (conv => whnf)
   refine SIf.ds (fun hlt2 => ?_) (fun hge2 => ?_)
   · have hj' : j < e.ports.length := by omega
     have hf := gE hj'
     generalize e.ports[j] = x at hf
     ((conv => whnf); repeat ((first | refine ye (map_get' (by omega) hf) ?_ | refine zz ?_) <;> (conv => whnf)))
     refine SLoopZ.by (fun q fr st => ∃ k : Nat, k ≤ p.ports.length ∧ q = p.ports.length - k ∧ NoneYet (fun y => decide (x = y)) p.ports k ∧
      fr = [(32, .i .i64 k), (31, .i .i64 (p.ports.map intR).length), (30, .sl none 1 (p.ports.map intR)), (10, .i .i64 x), (25, .i .i64 j), (24, .i .i64 (e.ports.map intR).length), (23, .sl none 1 (e.ports.map intR)), (18, .i .i64 i), (17, .i .i64 (l.map podR).length), (16, .sl none 16 (l.map podR)), (4, .p (.l 0) 0)] ∧ st = ⟨noG, ⟨1, [(0, .cs (podR p))]⟩⟩)
      p.ports.length ⟨_, _, ?_, 0, Nat.zero_le _, rfl, NoneYet.zero, rfl, rfl⟩ ?_
     · exact tL [0]
     rintro q fr st ⟨k, hk, rfl, hok3, rfl, rfl⟩ R3 hR3
     (conv => whnf)
     refine SIf.ds (fun hlt3 => ?_) (fun hge3 => ?_)
     · have hk' : k < p.ports.length := by omega
       have hg := gE hk'
       generalize p.ports[k] = y at hg
       ((conv => whnf); repeat ((first | refine ye (map_get' (by omega) hg) ?_ | refine zz ?_) <;> (conv => whnf)))
       refine SIf.mk (fun hc => ?_) (fun hc => ?_)
       · ((conv => whnf); repeat ((first | refine zz ?_) <;> (conv => whnf)))
         refine pure_free rfl ?_
         rw [any_some he (any_some hf (any_some hg hc))]
         rfl
       · ((conv => whnf); repeat ((first | refine zz ?_) <;> (conv => whnf)))
         refine hR3 (p.ports.length - (k + 1)) _ _ (by omega) ⟨_, _, ?_, k + 1, by omega, rfl, hok3.succ hg hc, rfl, rfl⟩
         exact tL [0]
     · ((conv => whnf); repeat ((first | refine zz ?_) <;> (conv => whnf)))
       refine hR2 (e.ports.length - (j + 1)) _ _ (by omega) ⟨_, _, ?_, j + 1, by omega, rfl, hok2.succ hf (any_none (hok3.all (by omega))), rfl, rfl⟩
       exact tL [0]
   · ((conv => whnf); repeat ((first | refine zz ?_) <;> (conv => whnf)))
     refine hR (l.length - (i + 1)) _ _ (by omega) ⟨_, _, ?_, i + 1, by omega, rfl, hok.succ he (any_none (hok2.all (by omega))), rfl, rfl⟩
     exact tL [0]
 · ((conv => whnf); repeat ((first | refine zz ?_) <;> (conv => whnf)))
   refine pure_free rfl ?_
   rw [any_none (hok.all (by omega))]
   rfl
end
end Go.Eng
