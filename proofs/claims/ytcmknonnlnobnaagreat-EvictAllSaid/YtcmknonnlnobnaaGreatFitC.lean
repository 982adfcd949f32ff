/-
One node alone: what is used, room, ports, what is wanted, what is borne.
-/
import Derived.Test.YtcmknonnlnobnaaGreatFitA
set_option linter.unusedVariables false
set_option linter.unusedSimpArgs false
set_option maxHeartbeats 4000000
namespace Go.Eng
open Go
def onD (s : StD) (node : Str) : List PodD := s.pods.filter fun p => p.node == node && !(node == [])
def usedD (s : StD) (node : Str) : Option ResD := sumD ⟨0, 0, 0⟩ ((onD s node).map (·.req))
section
variable {P : Program} (hG : FnsOk P AF.fns.get)
include hG
theorem used_ok (s : StD) (node : Str) (hl : LenOk s.pods) (hs : s.pods.length * 24 ≤ 140737488355328) (hr : ∀ p ∈ s.pods, p.req.ok) : Pure P 90 [stV s, .s node] (· = resO (usedD s node)) := by
 have hlm : (s.pods.map podR).length = s.pods.length := List.length_map _
 unfold LenOk at hl
 obtain ⟨f, hf⟩ : ∃ f : PodD → Bool, f = fun p => p.node == node && !(node == []) := ⟨_, rfl⟩
 refine pure_fn (hG _ AF.f90 rfl) rfl ?_
 ((conv => whnf); repeat ((first | refine zz ?_) <;> (conv => whnf)))
 refine SLoopZ.by (fun q fr st => ∃ (i : Nat) (b : Bool) (es : List ResD), i ≤ s.pods.length ∧ q = s.pods.length - i ∧ es = ((s.pods.take i).filter f).map (·.req) ∧ (b = false → es = []) ∧
  fr = [(12, .i .i64 i), (11, .i .i64 (s.pods.map podR).length), (10, .sl none 16 (s.pods.map podR)), (6, accV b 1 3 (es.map resR)), (4, .p (.l 0) 0), (1, .s node)] ∧ st = accS b 1 [(0, .cs (resR ⟨0, 0, 0⟩))])
  s.pods.length ⟨_, _, ?_, 0, false, [], Nat.zero_le _, rfl, rfl, fun _ => rfl, rfl, rfl⟩ ?_
 · exact tL [1]
 rintro q fr st ⟨i, b, es, hi, rfl, hes, hb, rfl, rfl⟩ R hR
 have hesl : es.length ≤ i := by
  rw [hes, List.length_map]
  exact Nat.le_trans (List.length_filter_le _ _) (List.length_take_le _ _)
 (conv => whnf)
 refine SIf.ds (fun hlt => ?_) (fun hge => ?_)
 · have hi' : i < s.pods.length := by omega
   have he := gE hi'
   generalize s.pods[i] = e at he
   have h1 : f e = true → es ++ [e.req] = ((s.pods.take (i + 1)).filter f).map (·.req) := fun h => by
    rw [take_succ' he, List.filter_append, List.map_append, ← hes]
    simp [h]
   have h0 : f e = false → es = ((s.pods.take (i + 1)).filter f).map (·.req) := fun h => by
    rw [take_succ' he, List.filter_append, List.map_append, ← hes]
    simp [h]
   cases b
   · obtain rfl : es = [] := hb rfl
     ((conv => whnf); repeat' ((first | refine ye (map_get' (by simp) he) ?_ | refine zz ?_ | refine SIf.ds (fun _ => ?_) (fun _ => ?_) | refine SIf.ns (fun _ => ?_) (fun _ => ?_) | refine SIf.mk (fun _ => ?_) (fun _ => ?_) | (intro r hr; cases r)) <;> (conv => whnf)))
     · refine hR (s.pods.length - (i + 1)) _ _ (by omega) ⟨_, _, ?_, i + 1, true, [] ++ [e.req], by omega, rfl, h1 (by rw [hf]; simp_all), (fun h => by cases h), rfl, rfl⟩
       exact tL [0, 3]
     · refine hR (s.pods.length - (i + 1)) _ _ (by omega) ⟨_, _, ?_, i + 1, false, [], by omega, rfl, h0 (by rw [hf]; simp_all), fun _ => rfl, rfl, rfl⟩
       exact tL [0]
     · refine hR (s.pods.length - (i + 1)) _ _ (by omega) ⟨_, _, ?_, i + 1, false, [], by omega, rfl, h0 (by rw [hf]; simp_all), fun _ => rfl, rfl, rfl⟩
       exact tL [0]
   · ((conv => whnf); repeat' ((first | refine ye (x := (es ++ [e.req]).map resR) (by rw [List.map_append]; rfl) ?_ | refine SChk.mk (by simp [roomOk]; omega) ?_ | refine ye (map_get' (by simp) he) ?_ | refine zz ?_ | refine SIf.ds (fun _ => ?_) (fun _ => ?_) | refine SIf.ns (fun _ => ?_) (fun _ => ?_) | refine SIf.mk (fun _ => ?_) (fun _ => ?_) | (intro r hr; cases r)) <;> (conv => whnf)))
     · refine hR (s.pods.length - (i + 1)) _ _ (by omega) ⟨_, _, ?_, i + 1, true, es ++ [e.req], by omega, rfl, h1 (by rw [hf]; simp_all), (fun h => by cases h), rfl, rfl⟩
       exact tL [0, 4]
     · refine hR (s.pods.length - (i + 1)) _ _ (by omega) ⟨_, _, ?_, i + 1, true, es, by omega, rfl, h0 (by rw [hf]; simp_all), (fun h => by cases h), rfl, rfl⟩
       exact tL [0, 1]
     · refine hR (s.pods.length - (i + 1)) _ _ (by omega) ⟨_, _, ?_, i + 1, true, es, by omega, rfl, h0 (by rw [hf]; simp_all), (fun h => by cases h), rfl, rfl⟩
       exact tL [0, 1]
 · have hall : es = (onD s node).map (·.req) := by
    rw [hes, List.take_of_length_le (by omega), hf]
    rfl
   have hel : LenOk es := by unfold LenOk; omega
   have her : ∀ r ∈ es, r.ok := by
    rw [hall]
    intro r hr'
    obtain ⟨p, hp, rfl⟩ := List.mem_map.1 hr'
    exact hr p (List.mem_filter.1 hp).1
   have hsum := sum_ok hG es hel her
   cases b
   · obtain rfl : es = [] := hb rfl
     rw [usedD, ← hall]
     cases hq : sumD ⟨0, 0, 0⟩ [] <;> rw [hq] at hsum
     all_goals ((conv => whnf); repeat ((first | refine cA (Pure.call1 hsum nwA rfl) ?_ | refine zz ?_) <;> (conv => whnf)))
     all_goals exact pure_free rfl rfl
   · rw [usedD, ← hall]
     cases hq : sumD ⟨0, 0, 0⟩ es <;> rw [hq] at hsum
     all_goals ((conv => whnf); repeat ((first | refine cA (Pure.call1 hsum nwA rfl) ?_ | refine zz ?_) <;> (conv => whnf)))
     all_goals exact pure_free rfl rfl
end
end Go.Eng
/-
One node alone: room, ports, what is wanted, what is borne; a node by its name.
-/
namespace Go.Eng
open Go
def fitsD (x y : ResD) : Bool := decide (x.a ≤ y.a) && (decide (x.b ≤ y.b) && decide (x.c ≤ y.c))
def roomD (s : StD) (p : PodD) (n : NodeD) : Bool :=
 match usedD s n.name with
 | some u => match addD u p.req with
   | some t => fitsD t n.cap
   | none => false
 | none => false
def portsD (s : StD) (p : PodD) (n : NodeD) : Bool := !s.pods.any fun q => q.node == n.name && (!(q.node == []) && q.ports.any fun x => p.ports.any fun y => decide (x = y))
def wantsD (p : PodD) (n : NodeD) : Bool := p.sel.all fun t => holdsD t n.labels
def borneD (p : PodD) (n : NodeD) : Bool := allD p.tols n.taints
theorem sumD_ok : ∀ {l : List ResD} {s t : ResD}, s.ok → sumD s l = some t → t.ok
 | [], s, t, hs, h => by cases h; exact hs
 | r :: q, s, t, hs, h => by
   simp only [sumD] at h
   split at h
   · rename_i t' ht
     exact sumD_ok (addD_ok ht) h
   · cases h
section
variable {P : Program} (hG : FnsOk P AF.fns.get)
include hG
theorem fits_ok (x y : ResD) : Pure P 91 [resV x, resV y] (· = .b (fitsD x y)) := by
 refine pure_fn (hG _ AF.f91 rfl) rfl ?_
 ((conv => whnf); repeat' ((first | refine zz ?_ | refine SLoopZ.un rfl ?_ | refine SIf.ds (fun _ => ?_) (fun _ => ?_) | refine SIf.ns (fun _ => ?_) (fun _ => ?_) | refine SIf.mk (fun _ => ?_) (fun _ => ?_) | (intro r hr; cases r)) <;> (conv => whnf)))
 all_goals (refine pure_free rfl ?_)
 all_goals (simp [fitsD]; try omega)
theorem room_ok (s : StD) (p : PodD) (n : NodeD) (hs : s.ok) (hp : p.req.ok) : Pure P 105 [stV s, .agg (podR p), .agg (nodeR n)] (· = .b (roomD s p n)) := by
 have hu := used_ok hG s n.name hs.pods (by have := hs.some; omega) (fun p hp => (hs.pod p hp).req)
 refine pure_fn (hG _ AF.f105 rfl) rfl ?_
 simp only [roomD]
 cases hq : usedD s n.name with
 | none =>
   rw [hq] at hu
   ((conv => whnf); repeat ((first | refine cA (Pure.go hu rfl) ?_ | refine zz ?_) <;> (conv => whnf)))
   exact pure_free rfl rfl
 | some u =>
   rw [hq] at hu
   have ha := add_ok hG u p.req (sumD_ok (by decide) hq) hp
   dsimp only
   cases ht : addD u p.req with
   | none =>
     rw [ht] at ha
     ((conv => whnf); repeat ((first | refine cA (Pure.go hu rfl) ?_ | refine cA (Pure.go ha rfl) ?_ | refine zz ?_) <;> (conv => whnf)))
     exact pure_free rfl rfl
   | some t =>
     rw [ht] at ha
     ((conv => whnf); repeat ((first | refine cA (Pure.go hu rfl) ?_ | refine cA (Pure.go ha rfl) ?_ | refine cA (Pure.go (fits_ok hG t n.cap) rfl) ?_ | refine zz ?_) <;> (conv => whnf)))
     exact pure_free rfl rfl
theorem ix_int (l : List Int) (x : Int) (hl : l.length ≤ 9223372036854775807) : Pure P 220 [.sl none 1 (l.map intR), .i .i64 x] (· = .i .i64 (ixRes (fun e => decide (x = e)) l)) := by
 have hlm : (l.map intR).length = l.length := List.length_map _
 refine pure_fn (hG _ AF.f220 rfl) rfl ?_
 ((conv => whnf); repeat ((first | refine zz ?_) <;> (conv => whnf)))
 refine SLoopZ.by (fun q fr st => ∃ i : Nat, i ≤ l.length ∧ q = l.length - i ∧ NoneYet (fun e => decide (x = e)) l i ∧ fr = [(8, .i .i64 i), (7, .i .i64 (l.map intR).length), (1, .i .i64 x), (0, .sl none 1 (l.map intR))] ∧ st = gst noG)
  l.length ⟨_, _, ?_, 0, Nat.zero_le _, rfl, NoneYet.zero, rfl, rfl⟩ ?_
 · exact tL0
 rintro q fr st ⟨i, hi, rfl, hok, rfl, rfl⟩ R hR
 (conv => whnf)
 refine SIf.ds (fun hlt => ?_) (fun hge => ?_)
 · have hi' : i < l.length := by omega
   have he := gE hi'
   generalize l[i] = e at he
   ((conv => whnf); repeat ((first | refine ye (map_get' (by simp) he) ?_ | refine zz ?_) <;> (conv => whnf)))
   refine SIf.mk (fun hp => ?_) (fun hp => ?_)
   · ((conv => whnf); repeat ((first | refine zz ?_) <;> (conv => whnf)))
     refine pure_free rfl ?_
     rw [findIdx_some he hp hok]
   · ((conv => whnf); repeat ((first | refine zz ?_) <;> (conv => whnf)))
     refine hR (l.length - (i + 1)) _ _ (by omega) ⟨_, _, ?_, i + 1, by omega, rfl, hok.succ he hp, rfl, rfl⟩
     exact tL0
 · ((conv => whnf); repeat ((first | refine zz ?_) <;> (conv => whnf)))
   refine pure_free rfl ?_
   rw [findIdx_none fun j x hx => hok j x (by have := (List.getElem?_eq_some_iff.1 hx).1; omega) hx]
theorem ct_int (l : List Int) (x : Int) (hl : l.length ≤ 9223372036854775807) : Pure P 112 [.sl none 1 (l.map intR), .i .i64 x] (· = .b (l.any fun e => decide (x = e))) := by
 refine pure_fn (hG _ AF.f112 rfl) rfl ?_
 ((conv => whnf); repeat ((first | refine cA (Pure.go (ix_int hG l x hl) rfl) ?_ | refine zz ?_) <;> (conv => whnf)))
 refine pure_free rfl ?_
 exact congrArg V.b ixRes_any
theorem ctf_int1 {l : List Int} {g : Nat} {k : Nat} {h : Heap} {p : Int → Bool} (hl : l.length ≤ 9223372036854775807)
 (hg : ∀ e ∈ l, ∀ K : V → Heap → Prop, K (.b (p e)) h → ACall P g (.i .i64 e :: [.p (.g k) 0]) h K) {K : V → Heap → Prop} (hK : K (.b (l.any p)) h) : ACall P 110 [.sl none 1 (l.map intR), .fn g [] [.p (.g k) 0]] h K := by
 refine fn_sp (hG _ AF.f110 rfl) rfl ?_
 ((conv => whnf); repeat ((first | refine SIf.ff rfl ?_ | refine SIf.tt rfl ?_ | refine SOpt.of rfl ?_ | refine SChk.mk rfl ?_ | refine SSame.mk rfl ?_ | refine ye rfl ?_) <;> (conv => whnf)))
 refine SCall.mk (ixf_int1 (k := k) (show okFn P 219 (ixfText 1 none) = true from hG _ AF.f219 rfl) hl hg ?_)
 ((conv => whnf); repeat ((first | refine SIf.ff rfl ?_ | refine SIf.tt rfl ?_ | refine SOpt.of rfl ?_ | refine SChk.mk rfl ?_ | refine SSame.mk rfl ?_ | refine ye rfl ?_) <;> (conv => whnf)))
 rw [← ixRes_any] at hK
 exact hK
theorem portsf_ok {x : Int} {p : PodD} (hp : LenOk p.ports) {h : Heap} {k : Nat} (hc : h.get k = some (.cs (podR p))) {K : V → Heap → Prop} (hK : K (.b (p.ports.any fun y => decide (x = y))) h) : ACall P 111 [.i .i64 x, .p (.g k) 0] h K := by
 refine fn_sp (hG _ AF.f111 rfl) rfl ?_
 ((conv => whnf); repeat ((first | refine SIf.ff rfl ?_ | refine SIf.tt rfl ?_ | refine SOpt.of rfl ?_ | refine SChk.mk rfl ?_ | refine SSame.mk rfl ?_ | refine ye (hc) ?_ | refine ye rfl ?_) <;> (conv => whnf)))
 refine SCall.mk (Pure.go (ct_int hG p.ports x hp) rfl ?_)
 ((conv => whnf); repeat ((first | refine SIf.ff rfl ?_ | refine SIf.tt rfl ?_ | refine SOpt.of rfl ?_ | refine SChk.mk rfl ?_ | refine SSame.mk rfl ?_ | refine ye rfl ?_) <;> (conv => whnf)))
 exact hK
theorem ports_ok (s : StD) (p : PodD) (n : NodeD) (hs : s.ok) (hp : LenOk p.ports) : Pure P 37 [stV s, .agg (podR p), .agg (nodeR n)] (· = .b (portsD s p n)) := by
 have hlm : (s.pods.map podR).length = s.pods.length := List.length_map _
 have hl := hs.pods
 unfold LenOk at hl
 refine pure_fn (hG _ AF.f37 rfl) rfl ?_
 ((conv => whnf); repeat ((first | refine zz ?_) <;> (conv => whnf)))
 refine SLoopZ.by (fun q fr st => ∃ i : Nat, i ≤ s.pods.length ∧ q = s.pods.length - i ∧ NoneYet (fun q => q.node == n.name && (!(q.node == []) && q.ports.any fun x => p.ports.any fun y => decide (x = y))) s.pods i ∧
  fr = [(12, .i .i64 i), (11, .i .i64 (s.pods.map podR).length), (10, .sl none 16 (s.pods.map podR)), (5, .p (.l 0) 0), (4, .p (.g 0) 0)] ∧ st = ⟨⟨1, [(0, .cs (podR p))]⟩, ⟨1, [(0, .cs (nodeR n))]⟩⟩)
  s.pods.length ⟨_, _, ?_, 0, Nat.zero_le _, rfl, NoneYet.zero, rfl, rfl⟩ ?_
 · exact tG [0] [1]
 rintro q fr st ⟨i, hi, rfl, hok, rfl, rfl⟩ R hR
 (conv => whnf)
 refine SIf.ds (fun hlt => ?_) (fun hge => ?_)
 · have hi' : i < s.pods.length := by omega
   have he := gE hi'
   have hm := List.getElem_mem hi'
   generalize s.pods[i] = e at he hm
   have heo := (hs.pod e hm).ports
   ((conv => whnf); repeat' ((first | refine cA (ctf_int1 hG (p := fun x => p.ports.any fun y => decide (x = y)) heo (fun x _ K hK => portsf_ok hG hp rfl hK)) ?_ | refine ye (map_get' (by simp) he) ?_ | refine zz ?_ | refine SIf.ds (fun _ => ?_) (fun _ => ?_) | refine SIf.ns (fun _ => ?_) (fun _ => ?_) | refine SIf.mk (fun _ => ?_) (fun _ => ?_) | (intro r hr; cases r)) <;> (conv => whnf)))
   all_goals first
    | (refine hR (s.pods.length - (i + 1)) _ _ (by omega) ⟨_, _, ?_, i + 1, by omega, rfl, hok.succ he (by simp_all), rfl, rfl⟩; exact tG [0] [0])
    | (refine pure_free rfl ?_; simp only [portsD]; rw [any_some he (by simp_all)]; rfl)
 · ((conv => whnf); repeat ((first | refine zz ?_) <;> (conv => whnf)))
   refine pure_free rfl ?_
   simp only [portsD]
   rw [any_none (hok.all (by omega))]
   rfl
theorem wants_ok (p : PodD) (n : NodeD) (hp : p.ok) (hn : n.ok) : Pure P 106 [.agg (podR p), .agg (nodeR n)] (· = .b (wantsD p n)) := by
 refine pure_fn (hG _ AF.f106 rfl) rfl ?_
 ((conv => whnf); repeat ((first | refine cA (Pure.go (match_ok hG p.sel n.labels hp.sel.each hp.sel.len hn.labels) rfl) ?_ | refine zz ?_) <;> (conv => whnf)))
 exact pure_free rfl rfl
theorem borne_ok (p : PodD) (n : NodeD) (hp : p.ok) (hn : n.ok) : Pure P 107 [.agg (podR p), .agg (nodeR n)] (· = .b (borneD p n)) := by
 refine pure_fn (hG _ AF.f107 rfl) rfl ?_
 ((conv => whnf); repeat ((first | refine cA (Pure.go (all_ok hG p.tols n.taints hp.tols hn.taints) rfl) ?_ | refine zz ?_) <;> (conv => whnf)))
 exact pure_free rfl rfl
end
end Go.Eng
