/-
The other nodes: domains, who keeps apart, how many there are.
-/
import Derived.Test.YtcmknonnlnobnaaGreatFitA
import Derived.Test.YtcmknonnlnobnaaGreatArgX
set_option linter.unusedVariables false
set_option linter.unusedSimpArgs false
set_option maxHeartbeats 4000000
set_option maxRecDepth 10000
namespace Go.Eng
open Go
def domainD (s : StD) (key node : Str) : Str × Bool :=
 match s.nodes.find? (fun n => n.name == node) with
 | some n => getD n.labels key
 | none => ([], false)
def sameD (s : StD) (key a b : Str) : Bool := (domainD s key a).2 && ((domainD s key b).2 && (domainD s key a).1 == (domainD s key b).1)
def keepsD (s : StD) (p q : PodD) (a b : Str) : Bool := !p.anti.isEmpty && ((p.anti.all fun t => holdsD t q.labels) && sameD s p.topo a b)
def badD (s : StD) (p : PodD) (node : Str) (q : PodD) : Bool := !(q.name == p.name || q.node == []) && (keepsD s p q q.node node || keepsD s q p q.node node)
def apartD (s : StD) (p : PodD) (node : Str) : Bool := !(!p.anti.isEmpty && !(domainD s p.topo node).2) && !s.pods.any (badD s p node)
def inDom (s : StD) (key val : Str) (ts : List TermD) (q : PodD) : Bool := !(q.node == [] || !(ts.all fun t => holdsD t q.labels)) && ((domainD s key q.node).2 && (domainD s key q.node).1 == val)
def countD (s : StD) (key val : Str) (ts : List TermD) : Nat := (s.pods.filter (inDom s key val ts)).length
section
variable {P : Program} (hG : FnsOk P AF.fns.get)
include hG
theorem domain_ok (s : StD) (key node : Str) (hs : s.ok) : Pure P 113 [stV s, .s key, .s node] (· = .tup [.s (domainD s key node).1, .b (domainD s key node).2]) := by
 have hlm : (s.nodes.map nodeR).length = s.nodes.length := List.length_map _
 have hl := hs.nodes
 unfold LenOk at hl
 refine pure_fn (hG _ AF.f113 rfl) rfl ?_
 ((conv => whnf); repeat ((first | refine zz ?_) <;> (conv => whnf)))
 refine SLoopZ.by (fun q fr st => ∃ i : Nat, i ≤ s.nodes.length ∧ q = s.nodes.length - i ∧ NoneYet (fun n => n.name == node) s.nodes i ∧
  fr = [(13, .i .i64 i), (12, .i .i64 (s.nodes.map nodeR).length), (11, .sl none 6 (s.nodes.map nodeR)), (2, .s node), (1, .s key)] ∧ st = gst noG)
  s.nodes.length ⟨_, _, ?_, 0, Nat.zero_le _, rfl, NoneYet.zero, rfl, rfl⟩ ?_
 · exact tL0
 rintro q fr st ⟨i, hi, rfl, hok, rfl, rfl⟩ R hR
 (conv => whnf)
 refine SIf.ds (fun hlt => ?_) (fun hge => ?_)
 · have hi' : i < s.nodes.length := by omega
   have he := gE hi'
   have hm := List.getElem_mem hi'
   generalize s.nodes[i] = e at he hm
   ((conv => whnf); repeat ((first | refine ye (map_get' (by simp) he) ?_ | refine zz ?_) <;> (conv => whnf)))
   refine SIf.mk (fun hp => ?_) (fun hp => ?_)
   · ((conv => whnf); repeat ((first | refine cA (Pure.go (get_ok hG e.labels key (hs.node e hm).labels) rfl) ?_ | refine zz ?_) <;> (conv => whnf)))
     refine pure_free rfl ?_
     simp only [domainD, find_some he hp hok]
   · ((conv => whnf); repeat ((first | refine zz ?_) <;> (conv => whnf)))
     refine hR (s.nodes.length - (i + 1)) _ _ (by omega) ⟨_, _, ?_, i + 1, by omega, rfl, hok.succ he hp, rfl, rfl⟩
     exact tL0
 · ((conv => whnf); repeat ((first | refine zz ?_) <;> (conv => whnf)))
   refine pure_free rfl ?_
   simp only [domainD, find_none (hok.all (by omega))]
theorem same_ok (s : StD) (key a b : Str) (hs : s.ok) : Pure P 38 [stV s, .s key, .s a, .s b] (· = .b (sameD s key a b)) := by
 refine pure_fn (hG _ AF.f38 rfl) rfl ?_
 have h1 := domain_ok hG s key a hs
 have h2 := domain_ok hG s key b hs
 simp only [sameD]
 generalize domainD s key a = x at h1
 generalize domainD s key b = y at h2
 obtain ⟨x1, x2⟩ := x
 obtain ⟨y1, y2⟩ := y
 cases x2 <;> cases y2
 all_goals ((conv => whnf); repeat ((first | refine cA (Pure.go h1 rfl) ?_ | refine cA (Pure.go h2 rfl) ?_ | refine zz ?_) <;> (conv => whnf)))
 all_goals exact pure_free rfl rfl
theorem keeps_ok (s : StD) (p q : PodD) (a b : Str) (hs : s.ok) (hp : p.ok) (hq : q.ok) : Pure P 216 [stV s, .agg (podR p), .agg (podR q), .s a, .s b] (· = .b (keepsD s p q a b)) := by
 refine pure_fn (hG _ AF.f216 rfl) rfl ?_
 have hm := match_ok hG p.anti q.labels hp.anti.each hp.anti.len hq.labels
 have hsame := same_ok hG s p.topo a b hs
 have hlm : (p.anti.map termR).length = p.anti.length := List.length_map _
 simp only [keepsD]
 generalize (p.anti.all fun t => holdsD t q.labels) = m at hm
 generalize sameD s p.topo a b = x at hsame
 ((conv => whnf); repeat ((first | refine zz ?_) <;> (conv => whnf)))
 refine SIf.ds (fun h1 => ?_) (fun h1 => ?_)
 · have : p.anti.isEmpty = false := by cases ha : p.anti with
    | nil => simp [ha] at h1
    | cons _ _ => rfl
   rw [this]
   cases m
   all_goals ((conv => whnf); repeat ((first | refine cA (Pure.go hm rfl) ?_ | refine cA (Pure.go hsame rfl) ?_ | refine zz ?_) <;> (conv => whnf)))
   all_goals exact pure_free rfl rfl
 · have : p.anti.isEmpty = true := by cases ha : p.anti with
    | nil => rfl
    | cons _ _ => simp [ha] at h1
   rw [this]
   ((conv => whnf); repeat ((first | refine zz ?_) <;> (conv => whnf)))
   exact pure_free rfl rfl
theorem apart_ok (s : StD) (p : PodD) (node : Str) (hs : s.ok) (hp : p.ok) : Pure P 108 [stV s, .agg (podR p), .s node] (· = .b (apartD s p node)) := by
 have hlm : (s.pods.map podR).length = s.pods.length := List.length_map _
 have hlm2 : (p.anti.map termR).length = p.anti.length := List.length_map _
 have hl := hs.pods
 unfold LenOk at hl
 have hd := domain_ok hG s p.topo node hs
 have hemp : p.anti.isEmpty = !decide (0 < (((p.anti.map termR).length : Nat) : Int)) := by
  cases p.anti <;> simp
 refine pure_fn (hG _ AF.f108 rfl) rfl ?_
 obtain ⟨x, hx⟩ : ∃ x, x = domainD s p.topo node := ⟨_, rfl⟩
 rw [← hx] at hd
 obtain ⟨x1, x2⟩ := x
 have hx2 : (domainD s p.topo node).2 = x2 := by rw [← hx]
 simp only [apartD, hx2]
 ((conv => whnf); repeat ((first | refine cA (Pure.go hd rfl) ?_ | refine zz ?_) <;> (conv => whnf)))
 refine SIf.ds (fun h1 => ?_) (fun h1 => ?_)
 all_goals cases x2
 all_goals ((conv => whnf); repeat ((first | refine zz ?_) <;> (conv => whnf)))
 · refine pure_free rfl ?_
   rw [hemp, decide_eq_true h1]
   rfl
 all_goals
  refine SLoopZ.by (fun q fr st => ∃ i : Nat, i ≤ s.pods.length ∧ q = s.pods.length - i ∧ NoneYet (badD s p node) s.pods i ∧
   fr = [(30, .i .i64 i), (29, .i .i64 (s.pods.map podR).length), (28, .sl none 16 (s.pods.map podR)), (4, .p (.l 1) 0), (3, .p (.l 0) 0), (2, .s node)] ∧ st = ⟨noG, ⟨2, [(1, .cs (podR p)), (0, .cs [.sl none 6 (s.nodes.map nodeR), .sl none 16 (s.pods.map podR)])]⟩⟩)
   s.pods.length ⟨_, _, ?_, 0, Nat.zero_le _, rfl, NoneYet.zero, rfl, rfl⟩ ?_
  · exact tL [0, 1]
  rintro q fr st ⟨i, hi, rfl, hok, rfl, rfl⟩ R hR
  (conv => whnf)
  refine SIf.ds (fun hlt => ?_) (fun hge => ?_)
  · have hi' : i < s.pods.length := by omega
    have he := gE hi'
    have hm := List.getElem_mem hi'
    generalize s.pods[i] = e at he hm
    have heo := (hs.pod e hm).toOk
    have k1 := keeps_ok hG s p e e.node node hs hp heo
    have k2 := keeps_ok hG s e p e.node node hs heo hp
    ((conv => whnf); repeat' ((first | refine cA (Pure.go k1 rfl) ?_ | refine cA (Pure.go k2 rfl) ?_ | refine ye (map_get' (by simp) he) ?_ | refine zz ?_ | refine SIf.ds (fun _ => ?_) (fun _ => ?_) | refine SIf.ns (fun _ => ?_) (fun _ => ?_) | refine SIf.mk (fun _ => ?_) (fun _ => ?_) | (intro r hr; cases r)) <;> (conv => whnf)))
    all_goals first
     | (refine hR (s.pods.length - (i + 1)) _ _ (by omega) ⟨_, _, ?_, i + 1, by omega, rfl, hok.succ he (by (simp_all [badD]; done)), rfl, rfl⟩; exact tL [0, 1])
     | (refine pure_free rfl ?_; rw [any_some he (by (simp_all [badD]; done))]; simp)
  · ((conv => whnf); repeat ((first | refine zz ?_) <;> (conv => whnf)))
    refine pure_free rfl ?_
    rw [any_none (hok.all (by omega))]
    first
      | (simp; done)
      | (have hnil : p.anti = [] := by
          cases hq : p.anti with
          | nil => rfl
          | cons _ _ => exfalso; simp [hq] at h1
         simp [hnil])
theorem count_ok (s : StD) (key val : Str) (ts : List TermD) (hs : s.ok) (ht : TermsOk ts) : Pure P 217 [stV s, .s key, .s val, .sl none 3 (ts.map termR)] (· = .i .i64 (countD s key val ts)) := by
 have hlm : (s.pods.map podR).length = s.pods.length := List.length_map _
 have hl := hs.pods
 unfold LenOk at hl
 refine pure_fn (hG _ AF.f217 rfl) rfl ?_
 ((conv => whnf); repeat ((first | refine zz ?_) <;> (conv => whnf)))
 refine SLoopZ.by (fun q fr st => ∃ i n : Nat, i ≤ s.pods.length ∧ q = s.pods.length - i ∧ n = ((s.pods.take i).filter (inDom s key val ts)).length ∧
  fr = [(17, .i .i64 i), (16, .i .i64 (s.pods.map podR).length), (15, .sl none 16 (s.pods.map podR)), (9, .i .i64 n), (4, .p (.l 0) 0), (3, .sl none 3 (ts.map termR)), (2, .s val), (1, .s key)] ∧ st = ⟨noG, ⟨1, [(0, .cs [.sl none 6 (s.nodes.map nodeR), .sl none 16 (s.pods.map podR)])]⟩⟩)
  s.pods.length ⟨_, _, ?_, 0, 0, Nat.zero_le _, rfl, rfl, rfl, rfl⟩ ?_
 · exact tL [0]
 rintro q fr st ⟨i, n, hi, rfl, hn, rfl, rfl⟩ R hR
 have hni : n ≤ i := by
  rw [hn]
  exact Nat.le_trans (List.length_filter_le _ _) (List.length_take_le _ _)
 (conv => whnf)
 refine SIf.ds (fun hlt => ?_) (fun hge => ?_)
 · have hi' : i < s.pods.length := by omega
   have he := gE hi'
   have hm := List.getElem_mem hi'
   generalize s.pods[i] = e at he hm
   have heo := (hs.pod e hm).toOk
   have hstep : ((s.pods.take (i + 1)).filter (inDom s key val ts)).length = n + (if inDom s key val ts e then 1 else 0) := by
    rw [take_succ' he, List.filter_append, List.length_append, ← hn]
    by_cases h : inDom s key val ts e = true <;> simp [h]
   have hmt := match_ok hG ts e.labels ht.each ht.len heo.labels
   have hdo := domain_ok hG s key e.node hs
   obtain ⟨c, hc⟩ : ∃ c, c = inDom s key val ts e := ⟨_, rfl⟩
   rw [← hc] at hstep
   simp only [inDom] at hc
   generalize (ts.all fun t => holdsD t e.labels) = m at hmt hc
   generalize domainD s key e.node = x at hdo hc
   obtain ⟨x1, x2⟩ := x
   cases c <;> cases m <;> cases x2
   all_goals ((conv => whnf); repeat' ((first | refine cA (Pure.go hmt rfl) ?_ | refine cA (Pure.go hdo rfl) ?_ | refine ye (map_get' (by simp) he) ?_ | refine zz ?_ | refine SIf.ds (fun _ => ?_) (fun _ => ?_) | refine SIf.ns (fun _ => ?_) (fun _ => ?_) | refine SIf.mk (fun _ => ?_) (fun _ => ?_) | (intro r hr; cases r)) <;> (conv => whnf)))
   all_goals try (exfalso; revert hc; simp_all; done)
   all_goals first
    | (refine hR (s.pods.length - (i + 1)) _ _ (by omega) ⟨_, _, ?_, i + 1, n + 0, by omega, rfl, hstep.symm, rfl, rfl⟩; exact tL [0]; done)
    | (refine hR (s.pods.length - (i + 1)) _ _ (by omega) ⟨_, _, ?_, i + 1, n + 1, by omega, rfl, hstep.symm, rfl, rfl⟩; exact tL [0]; done)
 · ((conv => whnf); repeat ((first | refine zz ?_) <;> (conv => whnf)))
   refine pure_free rfl ?_
   rw [hn, List.take_of_length_le (by omega)]
   rfl
end
end Go.Eng
/-
How even it is.
-/
namespace Go.Eng
open Go
def othersD (s : StD) (p : PodD) : StD := { s with pods := s.pods.filter fun q => !(q.name == p.name) }
def leastD (o : StD) (p : PodD) (here : Int) : List NodeD → Int
 | [] => here
 | n :: r => leastD o p (if (getD n.labels p.topo).2 then minI here (countD o p.topo (getD n.labels p.topo).1 p.even) else here) r
def evenD (s : StD) (p : PodD) (node : Str) : Bool :=
 if p.skew ≤ 0 then true else
 if (domainD s p.topo node).2 then
  decide ((countD (othersD s p) p.topo (domainD s p.topo node).1 p.even : Int) + (if (p.even.all fun t => holdsD t p.labels) then 1 else 0) - leastD (othersD s p) p (countD (othersD s p) p.topo (domainD s p.topo node).1 p.even) s.nodes ≤ p.skew)
 else false
theorem StD.ok.others {s : StD} (h : s.ok) (p : PodD) : (othersD s p).ok := by
 have hl : (othersD s p).pods.length ≤ s.pods.length := List.length_filter_le _ _
 refine ⟨h.nodes, Nat.le_trans hl h.pods, h.node, fun q hq => h.pod q (List.mem_filter.1 hq).1, Nat.le_trans (Nat.mul_le_mul_right _ hl) h.some⟩
section
variable {P : Program} (hG : FnsOk P AF.fns.get)
include hG
theorem even_ok (s : StD) (p : PodD) (node : Str) (hs : s.ok) (hp : p.ok) : Pure P 109 [stV s, .agg (podR p), .s node] (· = .b (evenD s p node)) := by
 have hlm : (s.pods.map podR).length = s.pods.length := List.length_map _
 have hlm2 : (s.nodes.map nodeR).length = s.nodes.length := List.length_map _
 have hl := hs.pods
 have hln := hs.nodes
 have hsm := hs.some
 unfold LenOk at hl hln
 have hd := domain_ok hG s p.topo node hs
 refine pure_fn (hG _ AF.f109 rfl) rfl ?_
 simp only [evenD]
 generalize domainD s p.topo node = x at hd
 obtain ⟨x1, x2⟩ := x
 ((conv => whnf); repeat ((first | refine zz ?_) <;> (conv => whnf)))
 refine SIf.ds (fun h1 => ?_) (fun h1 => ?_)
 · ((conv => whnf); repeat ((first | refine zz ?_) <;> (conv => whnf)))
   refine pure_free rfl ?_
   rw [if_pos h1]
 rw [if_neg h1]
 cases x2
 · ((conv => whnf); repeat ((first | refine cA (Pure.go hd rfl) ?_ | refine zz ?_) <;> (conv => whnf)))
   exact pure_free rfl rfl
 rw [if_pos rfl]
 ((conv => whnf); repeat ((first | refine cA (Pure.go hd rfl) ?_ | refine zz ?_) <;> (conv => whnf)))
 refine SLoopZ.by (fun q fr st => ∃ (i : Nat) (b : Bool) (es : List PodD), i ≤ s.pods.length ∧ q = s.pods.length - i ∧ es = (s.pods.take i).filter (fun q => !(q.name == p.name)) ∧ (b = false → es = []) ∧
  fr = [(37, .i .i64 i), (36, .i .i64 (s.pods.map podR).length), (35, .sl none 16 (s.pods.map podR)), (9, .p (.l 2) 0), (7, .s x1), (4, .p (.l 1) 0), (3, .p (.l 0) 0)] ∧
  st = accS b 3 [(2, .cs [.sl none 6 (s.nodes.map nodeR), accV b 3 16 (es.map podR)]), (1, .cs (podR p)), (0, .cs [.sl none 6 (s.nodes.map nodeR), .sl none 16 (s.pods.map podR)])])
  s.pods.length ⟨_, _, ?_, 0, false, [], Nat.zero_le _, rfl, rfl, fun _ => rfl, rfl, rfl⟩ ?_
 · exact tL [0, 1, 2]
 rintro q fr st ⟨i, b, es, hi, rfl, hes, hb, rfl, rfl⟩ R hR
 have hesl : es.length ≤ i := by
  rw [hes]
  exact Nat.le_trans (List.length_filter_le _ _) (List.length_take_le _ _)
 (conv => whnf)
 refine SIf.ds (fun hlt => ?_) (fun hge => ?_)
 · have hi' : i < s.pods.length := by omega
   have he := gE hi'
   generalize s.pods[i] = e at he
   have hstep : (s.pods.take (i + 1)).filter (fun q => !(q.name == p.name)) = es ++ (if (!(e.name == p.name)) = true then [e] else []) := by
    rw [take_succ' he, List.filter_append, ← hes]
    by_cases h : (!(e.name == p.name)) = true <;> simp [h]
   cases b
   · obtain rfl : es = [] := hb rfl
     ((conv => whnf); repeat ((first | refine ye (map_get' (by simp) he) ?_ | refine zz ?_) <;> (conv => whnf)))
     refine SIf.mk (fun hc => ?_) (fun hc => ?_)
     all_goals rw [hc] at hstep
     · ((conv => whnf); repeat ((first | refine zz ?_) <;> (conv => whnf)))
       refine hR (s.pods.length - (i + 1)) _ _ (by omega) ⟨_, _, ?_, i + 1, true, [] ++ [e], by omega, rfl, hstep.symm, (fun h => by cases h), rfl, rfl⟩
       exact tL [0, 1, 2, 5]
     · ((conv => whnf); repeat ((first | refine zz ?_) <;> (conv => whnf)))
       refine hR (s.pods.length - (i + 1)) _ _ (by omega) ⟨_, _, ?_, i + 1, false, [], by omega, rfl, hstep.symm, fun _ => rfl, rfl, rfl⟩
       exact tL [0, 1, 2]
   · ((conv => whnf); repeat ((first | refine ye (map_get' (by simp) he) ?_ | refine zz ?_) <;> (conv => whnf)))
     refine SIf.mk (fun hc => ?_) (fun hc => ?_)
     all_goals rw [hc] at hstep
     · ((conv => whnf); repeat ((first | refine ye (x := (es ++ [e]).map podR) (by rw [List.map_append]; rfl) ?_ | refine SChk.mk (by simp [roomOk]; omega) ?_ | refine zz ?_) <;> (conv => whnf)))
       refine hR (s.pods.length - (i + 1)) _ _ (by omega) ⟨_, _, ?_, i + 1, true, es ++ [e], by omega, rfl, hstep.symm, (fun h => by cases h), rfl, rfl⟩
       exact tL [0, 1, 2, 6]
     · ((conv => whnf); repeat ((first | refine zz ?_) <;> (conv => whnf)))
       refine hR (s.pods.length - (i + 1)) _ _ (by omega) ⟨_, _, ?_, i + 1, true, es ++ [], by omega, rfl, hstep.symm, (fun h => by cases h), rfl, rfl⟩
       rw [List.append_nil]
       exact tL [0, 1, 2, 3]
 · obtain ⟨o, ho⟩ : ∃ o, o = othersD s p := ⟨_, rfl⟩
   have hoe : es = o.pods := by
    rw [hes, List.take_of_length_le (by omega), ho]
    rfl
   have hon : o.nodes = s.nodes := by rw [ho]; rfl
   have hok := ho ▸ hs.others p
   have hcl : ∀ v, countD o p.topo v p.even ≤ s.pods.length := fun v => by
    refine Nat.le_trans (List.length_filter_le _ _) ?_
    rw [ho]
    exact List.length_filter_le _ _
   rw [← ho]
   have hc1 := count_ok hG o p.topo x1 p.even hok hp.even
   have hcx := hcl x1
   generalize countD o p.topo x1 p.even = here at hc1 hcx
   have hmt := match_ok hG p.even p.labels hp.even.each hp.even.len hp.labels
   rw [stV, ← hoe, hon] at hc1
   cases b
   · obtain rfl : es = [] := hb rfl
     ((conv => whnf); repeat ((first | refine cA (Pure.call1 hc1 nwA rfl) ?_ | refine zz ?_) <;> (conv => whnf)))
     refine SLoopZ.by (fun q fr st => ∃ (i : Nat) (m : Int), i ≤ s.nodes.length ∧ q = s.nodes.length - i ∧ 0 ≤ m ∧ m ≤ here ∧ leastD o p here s.nodes = leastD o p m (s.nodes.drop i) ∧
      fr = [(64, .i .i64 i), (63, .i .i64 (s.nodes.map nodeR).length), (62, .sl none 6 (s.nodes.map nodeR)), (13, .i .i64 m), (12, .i .i64 here), (9, .p (.l 1) 0), (4, .p (.l 0) 0)] ∧
      st = ⟨noG, ⟨2, [(1, .cs [.sl none 6 (s.nodes.map nodeR), .sl none 16 (List.map podR ([] : List PodD))]), (0, .cs (podR p))]⟩⟩)
      s.nodes.length ⟨_, _, ?_, 0, here, Nat.zero_le _, rfl, by omega, Int.le_refl _, rfl, rfl, rfl⟩ ?_
     · exact tL [1, 2]
     rintro q fr st ⟨i, m, hi, rfl, hm0, hm1, hml, rfl, rfl⟩ R hR
     (conv => whnf)
     refine SIf.ds (fun hlt => ?_) (fun hge => ?_)
     · have hi' : i < s.nodes.length := by omega
       have he := gE hi'
       have hmem := List.getElem_mem hi'
       rw [List.drop_eq_getElem_cons hi'] at hml
       generalize s.nodes[i] = e at he hml hmem
       have hg := get_ok hG e.labels p.topo (hs.node e hmem).labels
       rw [leastD] at hml
       generalize getD e.labels p.topo = g at hg hml
       obtain ⟨g1, g2⟩ := g
       cases g2
       · ((conv => whnf); repeat ((first | refine cA (Pure.go hg rfl) ?_ | refine ye (map_get' (by simp) he) ?_ | refine zz ?_) <;> (conv => whnf)))
         refine hR (s.nodes.length - (i + 1)) _ _ (by omega) ⟨_, _, ?_, i + 1, m, by omega, rfl, hm0, hm1, hml, rfl, rfl⟩
         exact tL [0, 1]
       · have hc2 := count_ok hG o p.topo g1 p.even hok hp.even
         have hcy := hcl g1
         rw [if_pos rfl] at hml
         dsimp only at hml
         generalize countD o p.topo g1 p.even = c at hc2 hcy hml
         rw [stV, ← hoe, hon] at hc2
         have hmi : minI m c ≤ m ∧ 0 ≤ minI m c := by unfold minI; split <;> omega
         ((conv => whnf); repeat ((first | refine cA (Pure.go hg rfl) ?_ | refine cA (Pure.go hc2 rfl) ?_ | refine SOpt.of (mn2 (z := minI m c) rfl) ?_ | refine ye (map_get' (by simp) he) ?_ | refine zz ?_) <;> (conv => whnf)))
         refine hR (s.nodes.length - (i + 1)) _ _ (by omega) ⟨_, _, ?_, i + 1, minI m c, by omega, rfl, hmi.2, by omega, hml, rfl, rfl⟩
         exact tL [0, 1]
     · rw [List.drop_eq_nil_of_le (by omega), leastD] at hml
       rw [hml]
       generalize (p.even.all fun t => holdsD t p.labels) = mt at hmt
       cases mt
       all_goals ((conv => whnf); repeat ((first | refine cA (Pure.go hmt rfl) ?_ | refine zz ?_) <;> (conv => whnf)))
       · exact pure_free rfl (by simp)
       · exact pure_free rfl (by simp)
   · ((conv => whnf); repeat ((first | refine cA (Pure.call1 hc1 nwA rfl) ?_ | refine zz ?_) <;> (conv => whnf)))
     refine SLoopZ.by (fun q fr st => ∃ (i : Nat) (m : Int), i ≤ s.nodes.length ∧ q = s.nodes.length - i ∧ 0 ≤ m ∧ m ≤ here ∧ leastD o p here s.nodes = leastD o p m (s.nodes.drop i) ∧
      fr = [(64, .i .i64 i), (63, .i .i64 (s.nodes.map nodeR).length), (62, .sl none 6 (s.nodes.map nodeR)), (13, .i .i64 m), (12, .i .i64 here), (9, .p (.l 1) 0), (4, .p (.l 0) 0)] ∧
      st = ⟨noG, ⟨2, [(1, .cs [.sl none 6 (s.nodes.map nodeR), .sl none 16 (List.map podR es)]), (0, .cs (podR p))]⟩⟩)
       s.nodes.length ⟨_, _, ?_, 0, here, Nat.zero_le _, rfl, by omega, Int.le_refl _, rfl, rfl, rfl⟩ ?_
     · exact tL [1, 2]
     rintro q fr st ⟨i, m, hi, rfl, hm0, hm1, hml, rfl, rfl⟩ R hR
     (conv => whnf)
     refine SIf.ds (fun hlt => ?_) (fun hge => ?_)
     · have hi' : i < s.nodes.length := by omega
       have he := gE hi'
       have hmem := List.getElem_mem hi'
       rw [List.drop_eq_getElem_cons hi'] at hml
       generalize s.nodes[i] = e at he hml hmem
       have hg := get_ok hG e.labels p.topo (hs.node e hmem).labels
       rw [leastD] at hml
       generalize getD e.labels p.topo = g at hg hml
       obtain ⟨g1, g2⟩ := g
       cases g2
       · ((conv => whnf); repeat ((first | refine cA (Pure.go hg rfl) ?_ | refine ye (map_get' (by simp) he) ?_ | refine zz ?_) <;> (conv => whnf)))
         refine hR (s.nodes.length - (i + 1)) _ _ (by omega) ⟨_, _, ?_, i + 1, m, by omega, rfl, hm0, hm1, hml, rfl, rfl⟩
         exact tL [0, 1]
       · have hc2 := count_ok hG o p.topo g1 p.even hok hp.even
         have hcy := hcl g1
         rw [if_pos rfl] at hml
         dsimp only at hml
         generalize countD o p.topo g1 p.even = c at hc2 hcy hml
         rw [stV, ← hoe, hon] at hc2
         have hmi : minI m c ≤ m ∧ 0 ≤ minI m c := by unfold minI; split <;> omega
         ((conv => whnf); repeat ((first | refine cA (Pure.go hg rfl) ?_ | refine cA (Pure.go hc2 rfl) ?_ | refine SOpt.of (mn2 (z := minI m c) rfl) ?_ | refine ye (map_get' (by simp) he) ?_ | refine zz ?_) <;> (conv => whnf)))
         refine hR (s.nodes.length - (i + 1)) _ _ (by omega) ⟨_, _, ?_, i + 1, minI m c, by omega, rfl, hmi.2, by omega, hml, rfl, rfl⟩
         exact tL [0, 1]
     · rw [List.drop_eq_nil_of_le (by omega), leastD] at hml
       rw [hml]
       generalize (p.even.all fun t => holdsD t p.labels) = mt at hmt
       cases mt
       all_goals ((conv => whnf); repeat ((first | refine cA (Pure.go hmt rfl) ?_ | refine zz ?_) <;> (conv => whnf)))
       · exact pure_free rfl (by simp)
       · exact pure_free rfl (by simp)
end
end Go.Eng
