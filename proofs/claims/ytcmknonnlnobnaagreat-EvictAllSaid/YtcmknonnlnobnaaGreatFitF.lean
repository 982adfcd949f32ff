/-
The other nodes, by the document: domains, who keeps apart, how many there are.
-/
import Derived.Test.YtcmknonnlnobnaaGreatFitC8
import Derived.Test.YtcmknonnlnobnaaGreatFitD
import Derived.Test.YtcmknonnlnobnaaGreatFitV
set_option linter.unusedVariables false
set_option linter.unusedSimpArgs false
set_option maxHeartbeats 8000000
set_option maxRecDepth 10000
namespace Go.Eng
open Go
section
variable {P : Program} (hG : FnsOk P AF.fns.get)
include hG
theorem rdomain_ok (s : StD) (key node : Str) (hs : s.ok) : Pure P 240 [stV s, .s key, .s node] (· = .tup [.s (domainD s key node).1, .b (domainD s key node).2]) := by
 have hg := rgetnode_ok hG s node hs.nodes
 refine pure_fn (hG _ AF.f240 rfl) rfl ?_
 simp only [domainD]
 cases hf : s.nodes.find? (fun n => n.name == node) with
 | none =>
   rw [hf] at hg
   ((conv => whnf); repeat ((first | refine cA (Pure.go hg rfl) ?_ | refine zz ?_) <;> (conv => whnf)))
   exact pure_free rfl rfl
 | some e =>
   rw [hf] at hg
   have hl := rlabel_ok hG e.labels key (hs.node e (List.mem_of_find?_eq_some hf)).labels
   ((conv => whnf); repeat ((first | refine cA (Pure.go hg rfl) ?_ | refine cA (Pure.go hl rfl) ?_ | refine zz ?_) <;> (conv => whnf)))
   exact pure_free rfl rfl
theorem rsame_ok (s : StD) (key a b : Str) (hs : s.ok) : Pure P 241 [stV s, .s key, .s a, .s b] (· = .b (sameD s key a b)) := by
 refine pure_fn (hG _ AF.f241 rfl) rfl ?_
 have h1 := rdomain_ok hG s key a hs
 have h2 := rdomain_ok hG s key b hs
 simp only [sameD]
 generalize domainD s key a = x at h1
 generalize domainD s key b = y at h2
 obtain ⟨x1, x2⟩ := x
 obtain ⟨y1, y2⟩ := y
 cases x2 <;> cases y2
 all_goals ((conv => whnf); repeat ((first | refine cA (Pure.go h1 rfl) ?_ | refine cA (Pure.go h2 rfl) ?_ | refine zz ?_) <;> (conv => whnf)))
 all_goals exact pure_free rfl rfl
theorem rcount_ok (s : StD) (key val : Str) (ts : List TermD) (hs : s.ok) (ht : TermsOk ts) : Pure P 242 [stV s, .s key, .s val, .sl none 3 (ts.map termR)] (· = .i .i64 (countD s key val ts)) := by
 have hlm : (s.pods.map podR).length = s.pods.length := List.length_map _
 have hl := hs.pods
 unfold LenOk at hl
 refine pure_fn (hG _ AF.f242 rfl) rfl ?_
 ((conv => whnf); repeat ((first | refine zz ?_) <;> (conv => whnf)))
 refine SLoopZ.by (fun q fr st => ∃ i n : Nat, i ≤ s.pods.length ∧ q = s.pods.length - i ∧ n = ((s.pods.take i).filter (inDom s key val ts)).length ∧
  fr = [(17, .i .i64 i), (16, .i .i64 (s.pods.map podR).length), (9, .i .i64 n), (4, .p (.l 0) 0), (3, .sl none 3 (ts.map termR)), (2, .s val), (1, .s key)] ∧ st = ⟨noG, ⟨1, [(0, .cs [.sl none 6 (s.nodes.map nodeR), .sl none 16 (s.pods.map podR)])]⟩⟩)
  s.pods.length ⟨_, _, ?_, 0, 0, Nat.zero_le _, rfl, rfl, rfl, rfl⟩ ?_
 · exact tL [0]
 rintro q fr st ⟨i, n, hi, rfl, hn, rfl, rfl⟩ R hR
 have hni : n ≤ i := by
  rw [hn]
  exact Nat.le_trans (List.length_filter_le _ _) (List.length_take_le _ _)
 (conv => whnf)
 refine SIf.ds (fun hlt => ?_) (fun hge => ?_)
 · have hi' : i < s.pods.length := by omega
   have he := gE hi'
   have hm := List.getElem_mem hi'
   generalize s.pods[i] = e at he hm
   have heo := (hs.pod e hm).toOk
   have hstep : ((s.pods.take (i + 1)).filter (inDom s key val ts)).length = n + (if inDom s key val ts e then 1 else 0) := by
    rw [take_succ' he, List.filter_append, List.length_append, ← hn]
    by_cases h : inDom s key val ts e = true <;> simp [h]
   have hmt := rmatch_ok hG ts e.labels ht heo.labels
   have hdo := rdomain_ok hG s key e.node hs
   obtain ⟨c, hc⟩ : ∃ c, c = inDom s key val ts e := ⟨_, rfl⟩
   rw [← hc] at hstep
   simp only [inDom] at hc
   generalize (ts.all fun t => holdsD t e.labels) = m at hmt hc
   generalize domainD s key e.node = x at hdo hc
   obtain ⟨x1, x2⟩ := x
   cases c <;> cases m <;> cases x2
   all_goals ((conv => whnf); repeat' ((first | refine cA (Pure.go hmt rfl) ?_ | refine cA (Pure.go hdo rfl) ?_ | refine ye (map_get' (by omega) he) ?_ | refine zz ?_ | refine SIf.ds (fun _ => ?_) (fun _ => ?_) | refine SIf.ns (fun _ => ?_) (fun _ => ?_) | refine SIf.mk (fun _ => ?_) (fun _ => ?_) | (intro r hr; cases r)) <;> (conv => whnf)))
   all_goals try (exfalso; clear hR hn hstep hmt hdo hs ht hm; revert hc; simp_all; done)
   all_goals first
    | (refine hR (s.pods.length - (i + 1)) _ _ (by omega) ⟨_, _, ?_, i + 1, n + 0, by omega, rfl, hstep.symm, rfl, rfl⟩; exact tL [0]; done)
    | (refine hR (s.pods.length - (i + 1)) _ _ (by omega) ⟨_, _, ?_, i + 1, n + 1, by omega, rfl, hstep.symm, rfl, rfl⟩; exact tL [0]; done)
 · ((conv => whnf); repeat ((first | refine zz ?_) <;> (conv => whnf)))
   refine pure_free rfl ?_
   rw [hn, List.take_of_length_le (by omega)]
   rfl
theorem rapart_ok (s : StD) (p : PodD) (node : Str) (hs : s.ok) (hp : p.ok) : Pure P 127 [stV s, .agg (podR p), .s node] (· = .b (apartD s p node)) := by
 have hlm : (s.pods.map podR).length = s.pods.length := List.length_map _
 have hl := hs.pods
 unfold LenOk at hl
 have hd := rdomain_ok hG s p.topo node hs
 have hemp : ∀ p : PodD, p.anti.isEmpty = !decide (0 < (((p.anti.map termR).length : Nat) : Int)) := fun p => by
  cases p.anti <;> simp
 refine pure_fn (hG _ AF.f127 rfl) rfl ?_
 obtain ⟨x, hx⟩ : ∃ x, x = domainD s p.topo node := ⟨_, rfl⟩
 rw [← hx] at hd
 obtain ⟨x1, x2⟩ := x
 have hx2 : (domainD s p.topo node).2 = x2 := by rw [← hx]
 simp only [apartD, hx2]
 ((conv => whnf); repeat ((first | refine zz ?_) <;> (conv => whnf)))
 refine SIf.ds (fun h1 => ?_) (fun h1 => ?_)
 all_goals cases x2
 all_goals ((conv => whnf); repeat ((first | refine cA (Pure.go hd rfl) ?_ | refine zz ?_) <;> (conv => whnf)))
 · refine pure_free rfl ?_
   rw [hemp, decide_eq_true h1]
   rfl
 all_goals
  refine SLoopZ.by (fun q fr st => ∃ i : Nat, i ≤ s.pods.length ∧ q = s.pods.length - i ∧ NoneYet (badD s p node) s.pods i ∧
   fr = [(28, .i .i64 i), (27, .i .i64 (s.pods.map podR).length), (4, .p (.l 1) 0), (3, .p (.l 0) 0), (2, .s node)] ∧ st = ⟨noG, ⟨2, [(1, .cs (podR p)), (0, .cs [.sl none 6 (s.nodes.map nodeR), .sl none 16 (s.pods.map podR)])]⟩⟩)
   s.pods.length ⟨_, _, ?_, 0, Nat.zero_le _, rfl, NoneYet.zero, rfl, rfl⟩ ?_
  · exact tL [0, 1]
  rintro q fr st ⟨i, hi, rfl, hok, rfl, rfl⟩ R hR
  (conv => whnf)
  refine SIf.ds (fun hlt => ?_) (fun hge => ?_)
  · have hi' : i < s.pods.length := by omega
    have he := gE hi'
    have hm := List.getElem_mem hi'
    generalize s.pods[i] = e at he hm
    have heo := (hs.pod e hm).toOk
    have s1 := rsame_ok hG s p.topo e.node node hs
    have s2 := rsame_ok hG s e.topo e.node node hs
    have m1 := rmatch_ok hG p.anti e.labels hp.anti heo.labels
    have m2 := rmatch_ok hG e.anti p.labels heo.anti hp.labels
    have hbad : badD s p node e = (!(e.name == p.name || e.node == []) && ((decide (0 < (((p.anti.map termR).length : Nat) : Int)) && (sameD s p.topo e.node node && p.anti.all fun t => holdsD t e.labels)) || (decide (0 < (((e.anti.map termR).length : Nat) : Int)) && (sameD s e.topo e.node node && e.anti.all fun t => holdsD t p.labels)))) := by
     simp only [badD, keepsD, hemp, Bool.not_not]
     rw [Bool.and_comm (sameD s p.topo e.node node), Bool.and_comm (sameD s e.topo e.node node)]
    generalize sameD s p.topo e.node node = y1 at s1 hbad
    generalize sameD s e.topo e.node node = y2 at s2 hbad
    generalize (p.anti.all fun t => holdsD t e.labels) = z1 at m1 hbad
    generalize (e.anti.all fun t => holdsD t p.labels) = z2 at m2 hbad
    ((conv => whnf); repeat' ((first | refine cA (Pure.go s1 rfl) ?_ | refine cA (Pure.go s2 rfl) ?_ | refine cA (Pure.go m1 rfl) ?_ | refine cA (Pure.go m2 rfl) ?_ | refine ye (map_get' (by omega) he) ?_ | refine zz ?_ | refine SIf.ds (fun _ => ?_) (fun _ => ?_) | refine SIf.ns (fun _ => ?_) (fun _ => ?_) | refine SIf.mk (fun _ => ?_) (fun _ => ?_) | (intro r hr; cases r)) <;> (conv => whnf)))
    all_goals first
     | (refine hR (s.pods.length - (i + 1)) _ _ (by omega) ⟨_, _, ?_, i + 1, by omega, rfl, hok.succ he (by (rw [hbad]; simp_all; done)), rfl, rfl⟩; exact tL [0, 1]; done)
     | (refine pure_free rfl ?_; rw [any_some he (by (rw [hbad]; simp_all; done))]; simp; done)
  · ((conv => whnf); repeat ((first | refine zz ?_) <;> (conv => whnf)))
    refine pure_free rfl ?_
    rw [any_none (hok.all (by omega))]
    first
      | (simp; done)
      | (have hnil : p.anti = [] := by
          cases hq : p.anti with
          | nil => rfl
          | cons _ _ => exfalso; simp [hq] at h1
         simp [hnil])
end
end Go.Eng
/-
How even it is, by the document.
-/
namespace Go.Eng
open Go
section
variable {P : Program} (hG : FnsOk P AF.fns.get)
include hG
theorem rwithout_ok (s : StD) (p : PodD) (hs : s.ok) : Pure P 55 [stV s, .sl none 1 [strR p.name]] (· = stV (othersD s p)) := by
 have hlm : (s.pods.map podR).length = s.pods.length := List.length_map _
 have hl := hs.pods
 have hsm := hs.some
 unfold LenOk at hl
 refine pure_fn (hG _ AF.f55 rfl) rfl ?_
 ((conv => whnf); repeat ((first | refine zz ?_) <;> (conv => whnf)))
 refine SLoopZ.by (fun q fr st => ∃ (i : Nat) (b : Bool) (es : List PodD), i ≤ s.pods.length ∧ q = s.pods.length - i ∧ es = (s.pods.take i).filter (fun q => !(q.name == p.name)) ∧ (b = false → es = []) ∧
  fr = [(16, .i .i64 i), (15, .i .i64 (s.pods.map podR).length), (5, .p (.l 2) 0), (4, .p (.l 1) 0), (2, .p (.l 0) 0), (1, .sl none 1 [strR p.name])] ∧
  st = accS b 3 [(2, .cs [.sl none 6 (s.nodes.map nodeR), accV b 3 16 (es.map podR)]), (1, .cs [.nils, .nils]), (0, .cs [.sl none 6 (s.nodes.map nodeR), .sl none 16 (s.pods.map podR)])])
  s.pods.length ⟨_, _, ?_, 0, false, [], Nat.zero_le _, rfl, rfl, fun _ => rfl, rfl, rfl⟩ ?_
 · exact tL [0, 1, 2]
 rintro q fr st ⟨i, b, es, hi, rfl, hes, hb, rfl, rfl⟩ R hR
 have hesl : es.length ≤ i := by
  rw [hes]
  exact Nat.le_trans (List.length_filter_le _ _) (List.length_take_le _ _)
 (conv => whnf)
 refine SIf.ds (fun hlt => ?_) (fun hge => ?_)
 · have hi' : i < s.pods.length := by omega
   have he := gE hi'
   generalize s.pods[i] = e at he
   have hsw : (p.name == e.name) = (e.name == p.name) := by
    by_cases h : p.name = e.name
    · rw [h]
    · rw [beq_false_of_ne h, beq_false_of_ne (Ne.symm h)]
   have hstep : (s.pods.take (i + 1)).filter (fun q => !(q.name == p.name)) = es ++ (if (!(p.name == e.name)) = true then [e] else []) := by
    rw [take_succ' he, List.filter_append, ← hes, hsw]
    by_cases h : (!(e.name == p.name)) = true <;> simp [h]
   have hint : es.map podR ++ [podR e] = (es ++ [e]).map podR := by rw [List.map_append]; rfl
   generalize hc : (p.name == e.name) = c at hstep
   cases c
   all_goals cases b
   · obtain rfl : es = [] := hb rfl
     have hk : (!(p.name == e.name)) = true := by rw [hc]; rfl
     ((conv => whnf); repeat ((first | refine SIf.tt hk ?_ | refine ye (map_get' (by omega) he) ?_ | refine zz ?_ | refine SLoopZ.un rfl ?_) <;> (conv => whnf)))
     refine hR (s.pods.length - (i + 1)) _ _ (by omega) ⟨_, _, ?_, i + 1, true, [] ++ [e], by omega, rfl, hstep.symm, (fun h => by cases h), rfl, rfl⟩
     exact tL [0, 1, 2, 4]
   · have hk : (!(p.name == e.name)) = true := by rw [hc]; rfl
     ((conv => whnf); repeat ((first | refine SIf.tt hk ?_ | refine ye (congrArg some hint) ?_ | refine SChk.mk (by simp [roomOk]; omega) ?_ | refine ye (map_get' (by omega) he) ?_ | refine zz ?_ | refine SLoopZ.un rfl ?_) <;> (conv => whnf)))
     refine hR (s.pods.length - (i + 1)) _ _ (by omega) ⟨_, _, ?_, i + 1, true, es ++ [e], by omega, rfl, hstep.symm, (fun h => by cases h), rfl, rfl⟩
     exact tL [0, 1, 2, 5]
   · obtain rfl : es = [] := hb rfl
     have hk : (!(p.name == e.name)) = false := by rw [hc]; rfl
     ((conv => whnf); repeat ((first | refine SIf.ff hk ?_ | refine ye (map_get' (by omega) he) ?_ | refine zz ?_ | refine SLoopZ.un rfl ?_) <;> (conv => whnf)))
     refine hR (s.pods.length - (i + 1)) _ _ (by omega) ⟨_, _, ?_, i + 1, false, [], by omega, rfl, hstep.symm, fun _ => rfl, rfl, rfl⟩
     exact tL [0, 1, 2]
   · have hk : (!(p.name == e.name)) = false := by rw [hc]; rfl
     ((conv => whnf); repeat ((first | refine SIf.ff hk ?_ | refine ye (map_get' (by omega) he) ?_ | refine zz ?_ | refine SLoopZ.un rfl ?_) <;> (conv => whnf)))
     refine hR (s.pods.length - (i + 1)) _ _ (by omega) ⟨_, _, ?_, i + 1, true, es ++ [], by omega, rfl, hstep.symm, (fun h => by cases h), rfl, rfl⟩
     rw [List.append_nil]
     exact tL [0, 1, 2, 3]
 · have hall : es = (othersD s p).pods := by
    rw [hes, List.take_of_length_le (by omega)]
    rfl
   have fin : stV ⟨s.nodes, es⟩ = stV (othersD s p) := by rw [hall]; rfl
   cases b
   · obtain rfl : es = [] := hb rfl
     ((conv => whnf); repeat ((first | refine zz ?_) <;> (conv => whnf)))
     exact pure_agg1 celA rfl fin
   · ((conv => whnf); repeat ((first | refine zz ?_) <;> (conv => whnf)))
     exact pure_agg1 celA rfl fin
theorem reven_ok (s : StD) (p : PodD) (node : Str) (hs : s.ok) (hp : p.ok) : Pure P 128 [stV s, .agg (podR p), .s node] (· = .b (evenD s p node)) := by
 have hlm2 : (s.nodes.map nodeR).length = s.nodes.length := List.length_map _
 have hl := hs.pods
 have hln := hs.nodes
 have hsm := hs.some
 unfold LenOk at hl hln
 have hd := rdomain_ok hG s p.topo node hs
 have hw := rwithout_ok hG s p hs
 refine pure_fn (hG _ AF.f128 rfl) rfl ?_
 simp only [evenD]
 generalize domainD s p.topo node = x at hd
 obtain ⟨x1, x2⟩ := x
 ((conv => whnf); repeat ((first | refine zz ?_) <;> (conv => whnf)))
 refine SIf.ds (fun h1 => ?_) (fun h1 => ?_)
 · ((conv => whnf); repeat ((first | refine zz ?_) <;> (conv => whnf)))
   refine pure_free rfl ?_
   rw [if_pos h1]
 rw [if_neg h1]
 cases x2
 · ((conv => whnf); repeat ((first | refine cA (Pure.go hd rfl) ?_ | refine zz ?_) <;> (conv => whnf)))
   exact pure_free rfl rfl
 rw [if_pos rfl]
 obtain ⟨o, ho⟩ : ∃ o, o = othersD s p := ⟨_, rfl⟩
 have hon : o.nodes = s.nodes := by rw [ho]; rfl
 have hok := ho ▸ hs.others p
 have hcl : ∀ v, countD o p.topo v p.even ≤ s.pods.length := fun v => by
  refine Nat.le_trans (List.length_filter_le _ _) ?_
  rw [ho]
  exact List.length_filter_le _ _
 rw [← ho] at hw ⊢
 have hc1 := rcount_ok hG o p.topo x1 p.even hok hp.even
 have hcx := hcl x1
 generalize countD o p.topo x1 p.even = here at hc1 hcx
 have hmt := rmatch_ok hG p.even p.labels hp.even hp.labels
 rw [stV, hon] at hc1
 conv at hw => arg 4; intro u; rw [stV, hon]
 ((conv => whnf); repeat ((first | refine cA (Pure.go hd rfl) ?_ | refine cA (Pure.call1 hw nwA rfl) ?_ | refine cA (Pure.go hc1 rfl) ?_ | refine zz ?_) <;> (conv => whnf)))
 refine SLoopZ.by (fun q fr st => ∃ (i : Nat) (m : Int), i ≤ s.nodes.length ∧ q = s.nodes.length - i ∧ 0 ≤ m ∧ m ≤ here ∧ leastD o p here s.nodes = leastD o p m (s.nodes.drop i) ∧
  fr = [(43, .i .i64 i), (42, .i .i64 (s.nodes.map nodeR).length), (10, .i .i64 m), (9, .i .i64 here), (4, .p (.l 1) 0), (3, .p (.l 0) 0)] ∧
  st = ⟨noG, ⟨2, [(1, .cs (podR p)), (0, .cs [.sl none 6 (s.nodes.map nodeR), .sl none 16 (o.pods.map podR)])]⟩⟩)
  s.nodes.length ⟨_, _, ?_, 0, here, Nat.zero_le _, rfl, by omega, Int.le_refl _, rfl, rfl, rfl⟩ ?_
 · exact tL [0, 1]
 rintro q fr st ⟨i, m, hi, rfl, hm0, hm1, hml, rfl, rfl⟩ R hR
 (conv => whnf)
 refine SIf.ds (fun hlt => ?_) (fun hge => ?_)
 · have hi' : i < s.nodes.length := by omega
   have he := gE hi'
   have hmem := List.getElem_mem hi'
   rw [List.drop_eq_getElem_cons hi'] at hml
   generalize s.nodes[i] = e at he hml hmem
   have hg := rlabel_ok hG e.labels p.topo (hs.node e hmem).labels
   rw [leastD] at hml
   generalize getD e.labels p.topo = g at hg hml
   obtain ⟨g1, g2⟩ := g
   cases g2
   · ((conv => whnf); repeat ((first | refine cA (Pure.go hg rfl) ?_ | refine ye (map_get' (by omega) he) ?_ | refine zz ?_) <;> (conv => whnf)))
     refine hR (s.nodes.length - (i + 1)) _ _ (by omega) ⟨_, _, ?_, i + 1, m, by omega, rfl, hm0, hm1, hml, rfl, rfl⟩
     exact tL [0, 1]
   · have hc2 := rcount_ok hG o p.topo g1 p.even hok hp.even
     have hcy := hcl g1
     rw [if_pos rfl] at hml
     dsimp only at hml
     generalize countD o p.topo g1 p.even = c at hc2 hcy hml
     rw [stV, hon] at hc2
     have hmi : minI m c ≤ m ∧ 0 ≤ minI m c := by unfold minI; split <;> omega
     ((conv => whnf); repeat ((first | refine cA (Pure.go hg rfl) ?_ | refine cA (Pure.go hc2 rfl) ?_ | refine SOpt.of (mn2 (z := minI m c) rfl) ?_ | refine ye (map_get' (by omega) he) ?_ | refine zz ?_) <;> (conv => whnf)))
     refine hR (s.nodes.length - (i + 1)) _ _ (by omega) ⟨_, _, ?_, i + 1, minI m c, by omega, rfl, hmi.2, by omega, hml, rfl, rfl⟩
     exact tL [0, 1]
 · rw [List.drop_eq_nil_of_le (by omega), leastD] at hml
   rw [hml]
   generalize (p.even.all fun t => holdsD t p.labels) = mt at hmt
   cases mt
   all_goals ((conv => whnf); repeat ((first | refine cA (Pure.go hmt rfl) ?_ | refine zz ?_) <;> (conv => whnf)))
   · exact pure_free rfl (by simp)
   · exact pure_free rfl (by simp)
end
end Go.Eng
