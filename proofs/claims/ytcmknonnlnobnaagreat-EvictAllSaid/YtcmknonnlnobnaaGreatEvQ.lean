/-
Pods by their names, where names are unlike; how many go at most.
-/
import Derived.Test.YtcmknonnlnobnaaGreatWiS
import Derived.Test.YtcmknonnlnobnaaGreatEvA
import Derived.Test.YtcmknonnlnobnaaGreatFitG
import Derived.Test.YtcmknonnlnobnaaGreatWiA
import Derived.Test.YtcmknonnlnobnaaGreatFitD
set_option linter.unusedVariables false
set_option linter.unusedSimpArgs false
set_option maxHeartbeats 16000000
set_option maxRecDepth 20000
namespace Go.Eng
open Go
theorem keep_le {s : StD} {p : PodD} {node : Str} : ∀ {lo : List PodD} {gone : List Str}, (keepGo s p node lo gone).length ≤ gone.length
 | [], _ => Nat.le_refl _
 | q :: r, gone => by
   rw [keepGo]
   refine Nat.le_trans keep_le ?_
   split
   · exact List.length_filter_le _ _
   · exact Nat.le_refl _
theorem vict_len {s : StD} {p : PodD} {node : Str} {l : List Str} (h : victD s p node = some l) : l.length ≤ s.pods.length := by
 unfold victD at h
 split at h
 · cases h
   have h1 : (sortE (keepGo s p node (lowerD s p node) ((lowerD s p node).map (·.name)))).length = _ := (List.mergeSort_perm _ _).length_eq
   have h2 := keep_le (s := s) (p := p) (node := node) (lo := lowerD s p node) (gone := (lowerD s p node).map (·.name))
   have h3 : (lowerD s p node).length ≤ s.pods.length := by
    unfold lowerD isortD
    rw [isortD_len]
    simp only [List.length_nil, Nat.zero_add]
    exact Nat.le_trans (List.length_filter_le _ _) (List.length_filter_le _ _)
   rw [List.length_map] at h2
   omega
 · cases h
end Go.Eng
/-
Who has to go from a node for a pod.
-/
namespace Go.Eng
open Go
def SortFOk (P : Program) (f g : Nat) : Prop :=
 ∀ (l : List Str) (r : Nat) (h : Heap) (K : V → Heap → Prop), l.length ≤ 1000 → h.get r = some (.arr 1 (l.map strR)) → K (.tup []) (h.set r (.arr 1 ((sortE l).map strR))) → ACall P f [.ms (.g r) 1 0 l.length, .fn g [] []] h K
def victV (o : Option (List Str)) : V :=
 match o with
 | some l => .tup [.sl none 1 (l.map strR), .b true]
 | none => .tup [.sl none 1 [], .b false]
theorem pure_tupm {Q : V → Prop} {k sz a n : Nat} {b : Bool} {es ds : List (List V)} {h' : Heap} (h : h'.get k = some (.arr sz es)) (hd : deepElems es = some ds) (hn : a + n ≤ ds.length) (hq : Q (.tup [.sl none sz ((ds.drop a).take n), .b b])) : PureAt Q (.tup [.ms (.g k) sz a n, .b b]) h' :=
 pure_ce (u := .tup [.sl none sz ((ds.drop a).take n), .b b]) (fz1 k sz ds) (fz1_of h hd) (.inr ⟨_, _, rfl, rfl, .inl (.frz (by simp [fz1]) hn rfl), ce1_free rfl, trivial⟩) rfl hq
theorem pure_tupn {Q : V → Prop} {sz : Nat} {b : Bool} {h' : Heap} (hq : Q (.tup [.sl none sz [], .b b])) : PureAt Q (.tup [.nils, .b b]) h' :=
 pure_ce (u := .tup [.sl none sz [], .b b]) noFz fzOf_no (.inr ⟨_, _, rfl, rfl, .inl .nil, ce1_free rfl, trivial⟩) rfl hq
def gonM (b : Bool) (n : Nat) : V :=
 match b with
 | true => .ms (.g 2) 1 0 n
 | false => .nils
def gonG (b : Bool) (p : PodD) (lo : List PodD) (gs : List Str) : Heap :=
 match b with
 | true => ⟨3, [(2, .arr 1 (gs.map strR)), (1, .arr 16 (lo.map podR)), (0, .cs (podR p))]⟩
 | false => ⟨2, [(1, .arr 16 (lo.map podR)), (0, .cs (podR p))]⟩
theorem StD.ok.without {s : StD} (h : s.ok) (gs : List Str) : (withoutD s gs).ok := by
 have hl : (withoutD s gs).pods.length ≤ s.pods.length := List.length_filter_le _ _
 exact ⟨h.nodes, Nat.le_trans hl h.pods, h.node, fun q hq => h.pod q (List.mem_filter.1 hq).1, Nat.le_trans (Nat.mul_le_mul_right _ hl) h.some⟩
section
variable {P : Program} (hG : FnsOk P AF.fns.get)
include hG
theorem vict_ok (hcmp : CmpOk P) (hS : SortFOk P 52 47)
 (s : StD) (p : PodD) (node : Str) (hs : s.ok) (hp : p.fit) (hsm : Small s) (h6 : s.nodes.length ≤ 1000) (h19 : s.pods.length ≤ 19) (hr : ∀ q ∈ s.pods, PodRoom q) :
 Pure P 8 [stV s, .agg (podR p), .s node] (· = victV (victD s p node)) := by
 have hlow : (onD s node).length ≤ 19 := Nat.le_trans (List.length_filter_le _ _) h19
 have hfe := fun gs => feas_ok hG (withoutD s gs) p node (hs.without gs) hp (show Small (withoutD s gs) from hsm)
 have hw0 := without_ok hG s [] h6 hs hsm hr (Nat.zero_le _)
 refine pure_fn (hG _ AF.f8 rfl) rfl ?_
 cases hon : onD s node with
 | nil =>
   have ho := on_ok hG s node hs hr
   rw [hon] at ho
   have hv : victD s p node = if feasD (withoutD s []) p node then some [] else none := by
    unfold victD lowerD
    rw [hon]
    simp [isortD, keepGo, sortE]
   rw [hv]
   have hf := hfe []
   generalize feasD (withoutD s []) p node = x at hf
   cases x
   · ((conv => whnf); repeat ((first | refine cA (Pure.go ho rfl) ?_ | refine cA (Pure.call1 hw0 nwA rfl) ?_ | refine cA (Pure.go hf rfl) ?_ | refine cA (fn_sf (hG _ _ rfl) rfl) ?_ | refine SLoopB.un rfl ?_ | refine zz ?_ | refine SLoopZ.un rfl ?_) <;> (conv => whnf)))
     exact pure_tupn (sz := 1) rfl
   · ((conv => whnf); repeat ((first | refine cA (Pure.go ho rfl) ?_ | refine cA (Pure.call1 hw0 nwA rfl) ?_ | refine cA (Pure.go hf rfl) ?_ | refine cA (fn_sf (hG _ _ rfl) rfl) ?_ | refine SLoopB.un rfl ?_ | refine SWrap.of (by decide) (by decide) ?_ | refine zz ?_ | refine SLoopZ.un rfl ?_) <;> (conv => whnf)))
     exact pure_tupn (sz := 1) rfl
 | cons q0 r0 =>
   have hm := on_made hG s node hs hr (by rw [hon]; exact List.cons_ne_nil _ _)
   clear hon
   obtain ⟨on, hone⟩ : ∃ on, on = onD s node := ⟨_, rfl⟩
   rw [← hone] at hm hlow
   obtain ⟨lo, hlo⟩ : ∃ lo, lo = lowerD s p node := ⟨_, rfl⟩
   have hlo' : isortD (fun a b => decide (cmpV a b < 0)) (on.filter fun q => !decide (p.prio ≤ q.prio)) = lo := by rw [hlo, hone]; rfl
   have hfl : (on.filter fun q => !decide (p.prio ≤ q.prio)).length ≤ 19 := Nat.le_trans (List.length_filter_le _ _) hlow
   have hlol : lo.length = (on.filter fun q => !decide (p.prio ≤ q.prio)).length := by rw [← hlo', isortD, isortD_len]; simp
   have hdel : ∀ (h : Heap) (K : V → Heap → Prop), h.get 1 = some (.arr 16 (on.map podR)) → h.get 0 = some (.cs (podR p)) → K (.ms (.g 1) 16 0 (on.filter fun q => !decide (p.prio ≤ q.prio)).length) (h.set 1 (.arr 16 ((on.filter fun q => !decide (p.prio ≤ q.prio)).map podR))) →
    ACall P 41 [.ms (.g 1) 16 0 on.length, .fn 43 [] [.p (.g 0) 0]] h K := fun h K h1 h0 hK =>
    delms_pod hG (p := fun q => decide (p.prio ≤ q.prio)) (by omega) h1 (fun e _ rows K hK => prioGe_ok hG (by rw [Heap.get_set_ne (by decide)]; exact h0) hK) hK
   have hsort : ∀ (h : Heap) (K : V → Heap → Prop), h.get 1 = some (.arr 16 ((on.filter fun q => !decide (p.prio ≤ q.prio)).map podR)) → K (.tup []) (h.set 1 (.arr 16 (lo.map podR))) →
    ACall P 44 [.ms (.g 1) 16 0 (on.filter fun q => !decide (p.prio ≤ q.prio)).length, .fn 45 [] []] h K := fun h K h1 hK =>
    stable_pod hG cmpV _ (fun a b => cmpV_ok hG hcmp a b) _ hfl h1 (by rw [hlo']; exact hK)
   ((conv => whnf); repeat ((first | refine cA (Made.row hm rfl) ?_ | refine cA (hdel _ _ rfl rfl) ?_ | refine cA (hsort _ _ rfl) ?_ | refine zz ?_) <;> (conv => whnf)))
   have hlm : (lo.map podR).length = lo.length := List.length_map _
   rw [← hlol]
   refine SLoopZ.by (fun q fr st => ∃ (i : Nat) (b : Bool) (es : List Str) (n : Nat), i ≤ lo.length ∧ q = lo.length - i ∧ es = (lo.take i).map (·.name) ∧ (b = false → es = []) ∧ n = es.length ∧
    fr = [(24, .i .i64 i), (23, .i .i64 lo.length), (22, .ms (.g 1) 16 0 lo.length), (9, gonM b n), (8, .ms (.g 1) 16 0 lo.length), (4, .p (.g 0) 0), (3, .p (.l 0) 0), (2, .s node)] ∧
    st = ⟨gonG b p lo es, ⟨1, [(0, .cs [.sl none 6 (s.nodes.map nodeR), .sl none 16 (s.pods.map podR)])]⟩⟩)
    lo.length ⟨_, _, ?_, 0, false, [], 0, Nat.zero_le _, rfl, rfl, fun _ => rfl, rfl, rfl, rfl⟩ ?_
   · exact tG [0, 1] [0]
   rintro q fr st ⟨i, b, es, n, hi, rfl, hes, hb, hn, rfl, rfl⟩ R hR
   have hesl : es.length = i := by rw [hes, List.length_map, List.length_take]; omega
   (conv => whnf)
   refine SIf.ds (fun hlt => ?_) (fun hge => ?_)
   · have hi' : i < lo.length := by omega
     have he := gE hi'
     generalize lo[i] = e at he
     have h1 : es ++ [e.name] = (lo.take (i + 1)).map (·.name) := by rw [take_succ' he, List.map_append, ← hes]; rfl
     cases b
     · obtain rfl : es = [] := hb rfl
       ((conv => whnf); repeat ((first | refine ye (map_get' (by omega) he) ?_ | refine zz ?_) <;> (conv => whnf)))
       refine hR (lo.length - (i + 1)) _ _ (by omega) ⟨_, _, ?_, i + 1, true, [] ++ [e.name], 1, by omega, rfl, h1, (fun h => by cases h), rfl, rfl, rfl⟩
       exact tG [0, 1, 3] [0]
     · have hem : (es.map strR).length = es.length := List.length_map _
       have hint : List.drop 0 (List.take (0 + n) (es.map strR)) ++ [strR e.name] = (es ++ [e.name]).map strR := by
        rw [Nat.zero_add, List.drop_zero, List.take_of_length_le (by omega), List.map_append]; rfl
       ((conv => whnf); repeat ((first | refine ye (congrArg some hint) ?_ | refine SChk.mk (by simp [roomOk]; omega) ?_ | refine SIf.df (by simp only [List.length_cons, List.length_nil, List.length_map]; omega) ?_ | refine ye (map_get' (by omega) he) ?_ | refine zz ?_) <;> (conv => whnf)))
       refine hR (lo.length - (i + 1)) _ _ (by omega) ⟨_, _, ?_, i + 1, true, es ++ [e.name], n + 1, by omega, rfl, h1, (fun h => by cases h), by simp [hn], rfl, rfl⟩
       exact tG [0, 1, 4] [0]
   clear hR
   have hall : es = lo.map (·.name) := by rw [hes, List.take_of_length_le (by omega)]
   have hv : victD s p node = if feasD (withoutD s es) p node then some (sortE (keepGo s p node lo es)) else none := by
    unfold victD
    rw [← hlo, hall]
   rw [hv]
   have hf := hfe es
   cases b
   · obtain rfl : es = [] := hb rfl
     have hlo0 : lo = [] := List.map_eq_nil_iff.1 hall.symm
     subst hlo0
     have hk0 : sortE (keepGo s p node [] []) = [] := by simp [keepGo, sortE]
     rw [hk0]
     generalize feasD (withoutD s []) p node = x at hf
     cases x
     · ((conv => whnf); repeat ((first | refine cA (Pure.call1 hw0 nwA rfl) ?_ | refine cA (Pure.go hf rfl) ?_ | refine zz ?_ | refine SLoopZ.un rfl ?_) <;> (conv => whnf)))
       exact pure_tupn (sz := 1) rfl
     · ((conv => whnf); repeat ((first | refine cA (Pure.call1 hw0 nwA rfl) ?_ | refine cA (Pure.go hf rfl) ?_ | refine cA (fn_sf (hG _ _ rfl) rfl) ?_ | refine SLoopB.un rfl ?_ | refine SWrap.of (by decide) (by decide) ?_ | refine zz ?_ | refine SLoopZ.un rfl ?_) <;> (conv => whnf)))
       exact pure_tupn (sz := 1) rfl
   · have hwl : ∀ (gs : List Str) (k : Nat) (h : Heap) (K : V → Heap → Prop), gs.length ≤ 1000 → h.get k = some (.arr 1 (gs.map strR)) → K (stV (withoutD s gs)) h → ACall P 48 [stV s, .ms (.g k) 1 0 gs.length] h K := fun gs k h K hgl hk hK => without_lent hG s gs hgl h6 hs hsm hr hk hK
     have hesn : es.length ≤ 19 := by omega
     subst hn
     generalize feasD (withoutD s es) p node = x at hf
     cases x
     · ((conv => whnf); repeat ((first | refine cA (hwl es 2 _ _ (by omega) rfl) ?_ | refine cA (Pure.go hf rfl) ?_ | refine zz ?_) <;> (conv => whnf)))
       exact pure_tupn (sz := 1) rfl
     · ((conv => whnf); repeat ((first | refine cA (hwl es 2 _ _ (by omega) rfl) ?_ | refine cA (Pure.go hf rfl) ?_ | refine zz ?_) <;> (conv => whnf)))
       clear hall hv hes
       refine SLoopZ.by (fun q fr st => ∃ (i : Nat) (G : List Str), i ≤ lo.length ∧ q = lo.length - i ∧ G.length ≤ 19 ∧ keepGo s p node lo es = keepGo s p node (lo.drop i) G ∧
        fr = [(43, .i .i64 i), (42, .i .i64 lo.length), (41, .ms (.g 1) 16 0 lo.length), (9, .ms (.g 2) 1 0 G.length), (4, .p (.g 0) 0), (3, .p (.l 0) 0), (2, .s node)] ∧
        st = ⟨gonG true p lo G, ⟨1, [(0, .cs [.sl none 6 (s.nodes.map nodeR), .sl none 16 (s.pods.map podR)])]⟩⟩)
         lo.length ⟨_, _, ?_, 0, es, Nat.zero_le _, rfl, hesn, rfl, rfl, rfl⟩ ?_
       · exact tG [0, 1, 2] [0]
       clear hf hesn
       generalize keepGo s p node lo es = KK
       rintro q fr st ⟨i, G, hi, rfl, hGl, hK, rfl, rfl⟩ R hR
       (conv => whnf)
       refine SIf.ds (fun hlt => ?_) (fun hge => ?_)
       · have hi' : i < lo.length := by omega
         have he := gE hi'
         have hdr : lo.drop i = lo[i] :: lo.drop (i + 1) := List.drop_eq_getElem_cons hi'
         rw [hdr, keepGo] at hK
         generalize lo[i] = e at he hK
         have hf := hfe (lessG G e)
         have hll : (lessG G e).length ≤ 19 := Nat.le_trans (List.length_filter_le _ _) hGl
         have hdel : ∀ (c : Nat) (h : Heap) (K : V → Heap → Prop), c ≠ 3 → h.get c = some (.arr 1 (G.map strR)) → h.get 3 = some (.cs (podR e)) → K (.ms (.g c) 1 0 (lessG G e).length) (h.set c (.arr 1 ((lessG G e).map strR))) →
          ACall P 49 [.ms (.g c) 1 0 G.length, .fn 51 [] [.p (.g 3) 0]] h K := fun c h K hc h1 h0 hK =>
          delms_str hG (p := fun n => n == e.name) (by omega) h1 (fun n _ rows K hK => nameIs_ok hG (by rw [Heap.get_set_ne (Ne.symm hc)]; exact h0) hK) hK
         generalize lessG G e = L at hf hll hdel hK
         generalize feasD (withoutD s L) p node = y at hf hK
         cases G with
         | nil =>
           cases y
           · ((conv => whnf); repeat ((first | refine cA (clonems_nil hG (Nat.ne_of_beq_eq_false rfl) rfl) ?_ | refine cA (hdel 4 _ _ (by decide) rfl rfl) ?_ | refine cA (hwl L 4 _ _ (by omega) rfl) ?_ | refine cA (Pure.go hf rfl) ?_ | refine ye (map_get' (by omega) he) ?_ | refine zz ?_) <;> (conv => whnf)))
             refine hR (lo.length - (i + 1)) _ _ (by omega) ⟨_, _, ?_, i + 1, [], by omega, rfl, by simp, hK, rfl, rfl⟩
             exact tG [0, 1, 2] [0]
           · ((conv => whnf); repeat ((first | refine cA (clonems_nil hG (Nat.ne_of_beq_eq_false rfl) rfl) ?_ | refine cA (hdel 4 _ _ (by decide) rfl rfl) ?_ | refine cA (hwl L 4 _ _ (by omega) rfl) ?_ | refine cA (Pure.go hf rfl) ?_ | refine ye (map_get' (by omega) he) ?_ | refine zz ?_) <;> (conv => whnf)))
             refine hR (lo.length - (i + 1)) _ _ (by omega) ⟨_, _, ?_, i + 1, L, by omega, rfl, hll, hK, rfl, rfl⟩
             exact tG [0, 1, 4] [0]
         | cons g0 gr =>
           cases y
           · ((conv => whnf); repeat ((first | refine cA (clonems_cons hG g0 gr (by omega) (Nat.ne_of_beq_eq_false rfl) rfl) ?_ | refine cA (hdel 5 _ _ (by decide) rfl rfl) ?_ | refine cA (hwl L 5 _ _ (by omega) rfl) ?_ | refine cA (Pure.go hf rfl) ?_ | refine ye (map_get' (by omega) he) ?_ | refine zz ?_) <;> (conv => whnf)))
             refine hR (lo.length - (i + 1)) _ _ (by omega) ⟨_, _, ?_, i + 1, g0 :: gr, by omega, rfl, hGl, hK, rfl, rfl⟩
             exact tG [0, 1, 2] [0]
           · ((conv => whnf); repeat ((first | refine cA (clonems_cons hG g0 gr (by omega) (Nat.ne_of_beq_eq_false rfl) rfl) ?_ | refine cA (hdel 5 _ _ (by decide) rfl rfl) ?_ | refine cA (hwl L 5 _ _ (by omega) rfl) ?_ | refine cA (Pure.go hf rfl) ?_ | refine ye (map_get' (by omega) he) ?_ | refine zz ?_) <;> (conv => whnf)))
             refine hR (lo.length - (i + 1)) _ _ (by omega) ⟨_, _, ?_, i + 1, L, by omega, rfl, hll, hK, rfl, rfl⟩
             exact tG [0, 1, 5] [0]
       · have hd0 : lo.drop i = [] := List.drop_of_length_le (by omega)
         rw [hd0, keepGo] at hK
         rw [hK]
         ((conv => whnf); repeat ((first | refine cA (hS G 2 _ _ (by omega) rfl) ?_ | refine zz ?_) <;> (conv => whnf)))
         have hsl : (sortE G).length = G.length := (List.mergeSort_perm G _).length_eq
         refine pure_tupm rfl (deep_map (fun _ => rfl) (sortE G)) (by rw [List.length_map]; omega) ?_
         rw [List.drop_zero, List.take_of_length_le (by rw [List.length_map]; omega)]
         rfl
end
end Go.Eng
/-
A pod by its name.
-/
namespace Go.Eng
open Go
section
variable {P : Program} (hG : FnsOk P AF.fns.get)
include hG
theorem statePod_ok (s : StD) (name : Str) (hl : LenOk s.pods) (hs : ∀ q ∈ s.pods, PodRoom q) : Pure P 130 [stV s, .s name] (· = podO (s.pods.find? fun p => p.name == name)) := by
 have hlm : (s.pods.map podR).length = s.pods.length := List.length_map _
 unfold LenOk at hl
 refine pure_fn (hG _ AF.f130 rfl) rfl ?_
 ((conv => whnf); repeat ((first | refine zz ?_) <;> (conv => whnf)))
 refine SLoopZ.by (fun q fr st => ∃ i : Nat, i ≤ s.pods.length ∧ q = s.pods.length - i ∧ NoneYet (fun p => p.name == name) s.pods i ∧
  fr = [(11, .i .i64 i), (10, .i .i64 (s.pods.map podR).length), (9, .sl none 16 (s.pods.map podR)), (4, .p (.l 0) 0), (1, .s name)] ∧ st = ⟨noG, ⟨1, [(0, .cs (podR podZ))]⟩⟩)
  s.pods.length ⟨_, _, ?_, 0, Nat.zero_le _, rfl, NoneYet.zero, rfl, rfl⟩ ?_
 · exact tL [1]
 rintro q fr st ⟨i, hi, rfl, hok, rfl, rfl⟩ R hR
 (conv => whnf)
 refine SIf.ds (fun hlt => ?_) (fun hge => ?_)
 · have hi' : i < s.pods.length := by omega
   have he := gE hi'
   have hm := List.getElem_mem hi'
   generalize s.pods[i] = e at he hm
   have hc := copyPod_ok hG e (hs e hm)
   ((conv => whnf); repeat ((first | refine ye (map_get' (by omega) he) ?_ | refine zz ?_) <;> (conv => whnf)))
   refine SIf.mk (fun hp => ?_) (fun hp => ?_)
   · ((conv => whnf); repeat ((first | refine cA (Pure.go hc rfl) ?_ | refine zz ?_) <;> (conv => whnf)))
     rw [find_some he hp hok]
     exact pure_free rfl rfl
   · ((conv => whnf); repeat ((first | refine zz ?_) <;> (conv => whnf)))
     refine hR (s.pods.length - (i + 1)) _ _ (by omega) ⟨_, _, ?_, i + 1, by omega, rfl, hok.succ he hp, rfl, rfl⟩
     exact tL [0]
 · ((conv => whnf); repeat ((first | refine zz ?_) <;> (conv => whnf)))
   rw [find_none (hok.all (by omega))]
   exact pure_tup1 (ds := podR podZ) celA rfl rfl
end
end Go.Eng
/-
Where the fewest go: what it costs, and the least of it.
-/
namespace Go.Eng
open Go
def costGo (s : StD) : List Str → Int → Int → Int × Int
 | [], m, u => (m, u)
 | n :: r, m, u => costGo s r (maxI m ((s.pods.find? fun q => q.name == n).getD podZ).prio) (IntKind.i64.wrap (u + ((s.pods.find? fun q => q.name == n).getD podZ).prio))
def costD (s : StD) (l : List Str) : Int × Int × Int := ((costGo s l (-1) 0).1, l.length, (costGo s l (-1) 0).2)
def costV (c : Int × Int × Int) : V := .agg [.i .i64 c.1, .i .i64 c.2.1, .i .i64 c.2.2]
def lessC (a b : Int × Int × Int) : Bool :=
 decide ((if cmpI a.1 b.1 = 0 then if cmpI a.2.1 b.2.1 = 0 then cmpI a.2.2 b.2.2 else cmpI a.2.1 b.2.1 else cmpI a.1 b.1) < 0)
abbrev BestV := Option (Str × List Str × (Int × Int × Int))
def bestStep (s : StD) (p : PodD) (b : BestV) (n : NodeD) : BestV :=
 match victD s p n.name with
 | none => b
 | some l => match b with
   | none => some (n.name, l, costD s l)
   | some d => if lessC (costD s l) d.2.2 then some (n.name, l, costD s l) else some d
def evictD (s : StD) (p : PodD) : BestV := s.nodes.foldl (bestStep s p) none
section
variable {P : Program} (hG : FnsOk P AF.fns.get)
include hG
theorem clone_node (l : List NodeD) (hl : l.length ≤ 1000) : Pure P 57 [.sl none 6 (l.map nodeR)] (· = .sl none 6 (l.map nodeR)) := by
 refine pure_fn (hG _ AF.f57 rfl) rfl ?_
 cases l with
 | nil =>
   ((conv => whnf); repeat ((first | refine zz ?_) <;> (conv => whnf)))
   refine SAny.mk fun b => ?_
   cases b
   · ((conv => whnf); repeat ((first | refine zz ?_) <;> (conv => whnf)))
     exact pure_ms (ds := []) rfl rfl (Nat.le_refl _) rfl
   · ((conv => whnf); repeat ((first | refine zz ?_) <;> (conv => whnf)))
     exact pure_nil rfl
 | cons x r =>
   have hr : roomOk (0 + ((x :: r).map nodeR).length) 88 = true := by
    rw [List.length_map, Nat.zero_add]
    unfold roomOk
    exact decide_eq_true (by omega)
   ((conv => whnf); repeat ((first | refine ye (own_map (fun _ => rfl) (x :: r)) ?_ | refine SChk.mk hr ?_ | refine zz ?_) <;> (conv => whnf)))
   refine pure_ms rfl (deep_map (fun _ => rfl) (x :: r)) (by simp) ?_
   simp [List.take_of_length_le]
theorem cmpN_ok (hcmp : CmpOk P) (a b : NodeD) : Pure P 59 [.agg (nodeR a), .agg (nodeR b)] (· = .i .i64 (cmpB a.name b.name)) := by
 have h2 := compare_ok hG hcmp a.name b.name
 generalize cmpB a.name b.name = v at h2
 refine pure_fn (hG _ AF.f59 rfl) rfl ?_
 ((conv => whnf); repeat ((first | refine cA (Pure.go h2 rfl) ?_ | refine zz ?_) <;> (conv => whnf)))
 exact pure_free rfl rfl
theorem isortn_ok (hcmp : CmpOk P) (es : List NodeD) (hl : es.length ≤ 19) (hs : es.Pairwise fun a b => lessS a.name b.name) :
 Pure P 243 [.sl none 6 (es.map nodeR), .i .i64 0, .i .i64 es.length, .fn 59 [] []] (· = .tup []) := by
 have hlm : (es.map nodeR).length = es.length := List.length_map _
 refine pure_fn (hG _ AF.f243 rfl) rfl ?_
 ((conv => whnf); repeat ((first | refine zz ?_) <;> (conv => whnf)))
 refine SLoopZ.by (fun q fr st => ∃ i : Nat, 1 ≤ i ∧ i ≤ es.length + 1 ∧ q = es.length + 1 - i ∧
  fr = [(8, .i .i64 i), (3, .fn 59 [] []), (2, .i .i64 es.length), (1, .i .i64 0), (0, .sl none 6 (es.map nodeR))] ∧ st = gst noG)
  es.length ⟨_, _, ?_, 1, by omega, by omega, by omega, rfl, rfl⟩ ?_
 · exact tL0
 rintro q fr st ⟨i, hi1, hi, rfl, rfl, rfl⟩ R hR
 (conv => whnf)
 refine SIf.ds (fun hlt => ?_) (fun hge => ?_)
 · have hi' : i < es.length := by omega
   have hj' : i - 1 < es.length := by omega
   have he := gE hi'
   have hf := gE hj'
   generalize es[i] = e at he
   generalize es[i - 1] = f at hf
   have hfe := cmpB_of_less (pair_get hs (by omega : i - 1 < i) hf he)
   have hc := cmpN_ok hG hcmp e f
   generalize cmpB e.name f.name = c at hfe hc
   ((conv => whnf); repeat ((first | refine cA (Pure.go hc rfl) ?_ | refine ye (map_get' (by omega) he) ?_ | refine ye (map_get' (by omega) hf) ?_ | refine zz ?_ | refine SLoopZ.un rfl ?_) <;> (conv => whnf)))
   refine hR (es.length + 1 - (i + 1)) _ _ (by omega) ⟨_, _, ?_, i + 1, by omega, by omega, rfl, rfl, rfl⟩
   exact tL0
 · ((conv => whnf); repeat ((first | refine zz ?_) <;> (conv => whnf)))
   exact pure_free rfl rfl
theorem stablecn_ok (hcmp : CmpOk P) (es : List NodeD) (hl : es.length ≤ 19) (hs : es.Pairwise fun a b => lessS a.name b.name) :
 Pure P 129 [.sl none 6 (es.map nodeR), .i .i64 es.length, .fn 59 [] []] (· = .tup []) := by
 have h := isortn_ok hG hcmp es hl hs
 refine pure_fn (hG _ AF.f129 rfl) rfl ?_
 ((conv => whnf); repeat ((first | refine cA (Pure.go h rfl) ?_ | refine zz ?_ | refine SLoopZ.un rfl ?_) <;> (conv => whnf)))
 exact pure_free rfl rfl
theorem stablen_ok (hcmp : CmpOk P) (es : List NodeD) (hl : es.length ≤ 19) (hs : es.Pairwise fun a b => lessS a.name b.name) :
 Pure P 58 [.sl none 6 (es.map nodeR), .fn 59 [] []] (· = .tup []) := by
 have h := stablecn_ok hG hcmp es hl hs
 have hlm : (es.map nodeR).length = es.length := List.length_map _
 refine pure_fn (hG _ AF.f58 rfl) rfl ?_
 ((conv => whnf); repeat ((first | refine zz ?_) <;> (conv => whnf)))
 rw [hlm]
 ((conv => whnf); repeat ((first | refine cA (Pure.go h rfl) ?_ | refine zz ?_) <;> (conv => whnf)))
 exact pure_free rfl rfl
theorem lessC_ok (a b : Int × Int × Int) : Pure P 61 [costV a, costV b] (· = .b (lessC a b)) := by
 obtain ⟨a1, a2, a3⟩ := a
 obtain ⟨b1, b2, b3⟩ := b
 have h1 := cmpInt_ok hG a1 b1
 have h2 := cmpInt_ok hG a2 b2
 have h3 := cmpInt_ok hG a3 b3
 unfold lessC
 dsimp only
 generalize cmpI a1 b1 = x at h1
 generalize cmpI a2 b2 = y at h2
 generalize cmpI a3 b3 = z at h3
 refine pure_fn (hG _ AF.f61 rfl) rfl ?_
 by_cases hx : x = 0 <;> by_cases hy : y = 0 <;> by_cases hz : z = 0
 all_goals (try subst hx)
 all_goals (try subst hy)
 all_goals (try subst hz)
 all_goals ((conv => whnf); repeat ((first | refine cA (Pure.go h1 rfl) ?_ | refine cA (Pure.go h2 rfl) ?_ | refine cA (Pure.go h3 rfl) ?_ | refine cA (fn_sf (hG _ _ rfl) rfl) ?_ | refine SLoopB.un rfl ?_ | refine zz ?_ | refine SLoopZ.un rfl ?_) <;> (conv => whnf)))
 all_goals (refine pure_free rfl ?_)
 all_goals first | rfl | (simp [*]; done)
theorem costs_ok (s : StD) (l : List Str) (hs : s.ok) (hr : ∀ q ∈ s.pods, PodRoom q) (hl : l.length ≤ 1000) : Pure P 60 [stV s, .sl none 1 (l.map strR)] (· = costV (costD s l)) := by
 have hlm : (l.map strR).length = l.length := List.length_map _
 refine pure_fn (hG _ AF.f60 rfl) rfl ?_
 ((conv => whnf); repeat ((first | refine zz ?_) <;> (conv => whnf)))
 refine SLoopZ.by (fun q fr st => ∃ (i : Nat) (m u : Int), i ≤ l.length ∧ q = l.length - i ∧ costGo s l (-1) 0 = costGo s (l.drop i) m u ∧
  fr = [(15, .i .i64 i), (14, .i .i64 (l.map strR).length), (13, .sl none 1 (l.map strR)), (5, .p (.l 2) 0), (4, .p (.l 1) 0), (2, .p (.l 0) 0)] ∧
  st = ⟨noG, ⟨3, [(2, .cs [.i .i64 m, .i .i64 (l.map strR).length, .i .i64 u]), (1, .cs [.i .i64 0, .i .i64 0, .i .i64 0]), (0, .cs [.sl none 6 (s.nodes.map nodeR), .sl none 16 (s.pods.map podR)])]⟩⟩)
  l.length ⟨_, _, ?_, 0, -1, 0, Nat.zero_le _, rfl, rfl, rfl, rfl⟩ ?_
 · exact tL [0, 1, 2]
 rintro q fr st ⟨i, m, u, hi, rfl, hc, rfl, rfl⟩ R hR
 (conv => whnf)
 refine SIf.ds (fun hlt => ?_) (fun hge => ?_)
 · have hi' : i < l.length := by omega
   have he := gE hi'
   have hdr : l.drop i = l[i] :: l.drop (i + 1) := List.drop_eq_getElem_cons hi'
   rw [hdr, costGo] at hc
   generalize l[i] = e at he hc
   have hg := statePod_ok hG s e hs.pods hr
   obtain ⟨z, hz⟩ : ∃ z, z = (s.pods.find? fun q => q.name == e).getD podZ := ⟨_, rfl⟩
   have hpo : ∃ b : Bool, podO (s.pods.find? fun q => q.name == e) = .tup [.agg (podR z), .b b] := by
    rw [hz]
    cases s.pods.find? fun q => q.name == e with
    | none => exact ⟨_, rfl⟩
    | some q => exact ⟨_, rfl⟩
   obtain ⟨b, hb⟩ := hpo
   rw [hb] at hg
   rw [← hz] at hc
   ((conv => whnf); repeat ((first | refine cA (Pure.go hg rfl) ?_ | refine SOpt.of (mx2 (z := maxI m z.prio) rfl) ?_ | refine SWrap.w64 (by omega) (by omega) ?_ | refine SWrap.mk ?_ | refine ye (map_get' (by omega) he) ?_ | refine zz ?_) <;> (conv => whnf)))
   refine hR (l.length - (i + 1)) _ _ (by omega) ⟨_, _, ?_, i + 1, maxI m z.prio, _, by omega, rfl, hc, rfl, rfl⟩
   exact tL [0, 1, 2]
 · have hd0 : l.drop i = [] := List.drop_of_length_le (by omega)
   rw [hd0, costGo] at hc
   ((conv => whnf); repeat ((first | refine zz ?_) <;> (conv => whnf)))
   refine pure_free rfl ?_
   unfold costV costD
   rw [hc, hlm]
end
end Go.Eng
/-
Where the fewest go.
-/
namespace Go.Eng
open Go
def costC (b : BestV) : List V :=
 match b with
 | none => [.i .i64 0, .i .i64 0, .i .i64 0]
 | some d => [.i .i64 d.2.2.1, .i .i64 d.2.2.2.1, .i .i64 d.2.2.2.2]
def doC (pod : Str) (b : BestV) : List V :=
 match b with
 | none => [.s [], .s [], .sl none 1 []]
 | some d => [.s pod, .s d.1, .sl none 1 (d.2.1.map strR)]
section
variable {P : Program} (hG : FnsOk P AF.fns.get)
include hG
theorem evbest_ok (hcmp : CmpOk P) (hS : SortFOk P 52 47)
 (s : StD) (p : PodD) (hs : s.ok) (hp : p.fit) (hsm : Small s) (h6 : s.nodes.length ≤ 6) (h19 : s.pods.length ≤ 19) (hr : ∀ q ∈ s.pods, PodRoom q) (hso : s.nodes.Pairwise fun a b => lessS a.name b.name) :
 Pure P 10 [stV s, .agg (podR p)] (· = .tup [.agg (doC p.name (evictD s p)), .b (evictD s p).isSome]) := by
 have hlm : (s.nodes.map nodeR).length = s.nodes.length := List.length_map _
 have hc := clone_node hG s.nodes (by omega)
 have hst := stablen_ok hG hcmp s.nodes (by omega) hso
 refine pure_fn (hG _ AF.f10 rfl) rfl ?_
 ((conv => whnf); repeat ((first | refine cA (Pure.go hc rfl) ?_ | refine cA (Pure.go hst rfl) ?_ | refine zz ?_) <;> (conv => whnf)))
 refine SLoopZ.by (fun q fr st => ∃ (i : Nat) (b : BestV), i ≤ s.nodes.length ∧ q = s.nodes.length - i ∧ evictD s p = (s.nodes.drop i).foldl (bestStep s p) b ∧
  fr = [(22, .i .i64 i), (21, .i .i64 (s.nodes.map nodeR).length), (20, .sl none 6 (s.nodes.map nodeR)), (8, .b b.isSome), (7, .p (.l 4) 0), (6, .p (.l 3) 0), (4, .p (.l 2) 0), (3, .p (.l 1) 0), (2, .p (.l 0) 0)] ∧
  st = ⟨noG, ⟨5, [(4, .cs (costC b)), (3, .cs (doC p.name b)), (2, .cs [.s [], .s [], .sl none 1 []]), (1, .cs (podR p)), (0, .cs [.sl none 6 (s.nodes.map nodeR), .sl none 16 (s.pods.map podR)])]⟩⟩)
  s.nodes.length ⟨_, _, ?_, 0, none, Nat.zero_le _, rfl, rfl, rfl, rfl⟩ ?_
 · exact tL [0, 1, 2, 3, 4]
 rintro q fr st ⟨i, b, hi, rfl, hb, rfl, rfl⟩ R hR
 generalize evictD s p = E at hb hR ⊢
 (conv => whnf)
 refine SIf.ds (fun hlt => ?_) (fun hge => ?_)
 · have hi' : i < s.nodes.length := by omega
   have he := gE hi'
   have hdr : s.nodes.drop i = s.nodes[i] :: s.nodes.drop (i + 1) := List.drop_eq_getElem_cons hi'
   rw [hdr, List.foldl_cons] at hb
   generalize s.nodes[i] = e at he hb
   have hv := vict_ok hG hcmp hS s p e.name hs hp hsm (by omega) h19 hr
   cases hvd : victD s p e.name with
   | none =>
     rw [hvd] at hv
     have h1 : bestStep s p b e = b := by unfold bestStep; rw [hvd]
     rw [h1] at hb
     cases b
     all_goals ((conv => whnf); repeat ((first | refine cA (Pure.go hv rfl) ?_ | refine ye (map_get' (by omega) he) ?_ | refine zz ?_) <;> (conv => whnf)))
     all_goals refine hR (s.nodes.length - (i + 1)) _ _ (by omega) ⟨_, _, ?_, i + 1, _, by omega, rfl, hb, rfl, rfl⟩
     all_goals exact tL [0, 1, 2, 3, 4]
   | some l =>
     rw [hvd] at hv
     have hll := vict_len hvd
     have hco := costs_ok hG s l hs hr (by omega)
     obtain ⟨cc, hcc⟩ : ∃ cc, cc = costD s l := ⟨_, rfl⟩
     rw [← hcc] at hco
     cases b with
     | none =>
       have h1 : bestStep s p none e = some (e.name, l, cc) := by unfold bestStep; rw [hvd, hcc]
       rw [h1] at hb
       ((conv => whnf); repeat ((first | refine cA (Pure.go hv rfl) ?_ | refine cA (Pure.go hco rfl) ?_ | refine ye (map_get' (by omega) he) ?_ | refine zz ?_) <;> (conv => whnf)))
       refine hR (s.nodes.length - (i + 1)) _ _ (by omega) ⟨_, _, ?_, i + 1, some (e.name, l, cc), by omega, rfl, hb, rfl, rfl⟩
       exact tL [0, 1, 2, 3, 4]
     | some d =>
       obtain ⟨d1, d2, dc⟩ := d
       have hle := lessC_ok hG cc dc
       cases hlc : lessC cc dc with
       | true =>
         have h1 : bestStep s p (some (d1, d2, dc)) e = some (e.name, l, cc) := by unfold bestStep; rw [hvd]; dsimp only; rw [← hcc, if_pos hlc]
         rw [h1] at hb
         rw [hlc] at hle
         ((conv => whnf); repeat ((first | refine cA (Pure.go hv rfl) ?_ | refine cA (Pure.go hco rfl) ?_ | refine cA (Pure.go hle rfl) ?_ | refine ye (map_get' (by omega) he) ?_ | refine zz ?_) <;> (conv => whnf)))
         refine hR (s.nodes.length - (i + 1)) _ _ (by omega) ⟨_, _, ?_, i + 1, some (e.name, l, cc), by omega, rfl, hb, rfl, rfl⟩
         exact tL [0, 1, 2, 3, 4]
       | false =>
         have h1 : bestStep s p (some (d1, d2, dc)) e = some (d1, d2, dc) := by unfold bestStep; rw [hvd]; dsimp only; rw [← hcc, if_neg (by rw [hlc]; decide)]
         rw [h1] at hb
         rw [hlc] at hle
         ((conv => whnf); repeat ((first | refine cA (Pure.go hv rfl) ?_ | refine cA (Pure.go hco rfl) ?_ | refine cA (Pure.go hle rfl) ?_ | refine ye (map_get' (by omega) he) ?_ | refine zz ?_) <;> (conv => whnf)))
         refine hR (s.nodes.length - (i + 1)) _ _ (by omega) ⟨_, _, ?_, i + 1, some (d1, d2, dc), by omega, rfl, hb, rfl, rfl⟩
         exact tL [0, 1, 2, 3, 4]
 · have hd0 : s.nodes.drop i = [] := List.drop_of_length_le (by omega)
   rw [hd0, List.foldl_nil] at hb
   subst hb
   cases E
   all_goals ((conv => whnf); repeat ((first | refine zz ?_) <;> (conv => whnf)))
   all_goals exact pure_free rfl rfl
end
end Go.Eng
/-
Where it is cheapest those go that have to go there.
-/
namespace Go.Eng
open Go
theorem step_vict {s : StD} {p : PodD} {b : BestV} {n : NodeD} (h : ∀ d, b = some d → victD s p d.1 = some d.2.1) : ∀ d, bestStep s p b n = some d → victD s p d.1 = some d.2.1 := by
 intro d hd
 unfold bestStep at hd
 cases hv : victD s p n.name with
 | none => rw [hv] at hd; exact h d hd
 | some l =>
   rw [hv] at hd
   cases b with
   | none => cases hd; exact hv
   | some e =>
     dsimp only at hd
     split at hd
     · cases hd; exact hv
     · exact h d hd
theorem fold_vict {s : StD} {p : PodD} : ∀ (N : List NodeD) (b : BestV), (∀ d, b = some d → victD s p d.1 = some d.2.1) → ∀ d, N.foldl (bestStep s p) b = some d → victD s p d.1 = some d.2.1
 | [], _, h => h
 | n :: r, b, h => by
   rw [List.foldl_cons]
   exact fold_vict r _ (step_vict h)
theorem evict_vict {s : StD} {p : PodD} {d : Str × List Str × (Int × Int × Int)} (h : evictD s p = some d) : victD s p d.1 = some d.2.1 := fold_vict s.nodes none (fun d hd => by cases hd) d h
end Go.Eng
