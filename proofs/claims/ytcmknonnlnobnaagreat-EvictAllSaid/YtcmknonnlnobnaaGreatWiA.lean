/-
A state's nodes, a state without some pods, with memory of their own.
-/
import Derived.Test.YtcmknonnlnobnaaGreatFitB5
import Derived.Test.YtcmknonnlnobnaaGreatFitA
import Derived.Test.YtcmknonnlnobnaaGreatEngD
set_option linter.unusedVariables false
set_option linter.unusedSimpArgs false
set_option maxHeartbeats 4000000
set_option maxRecDepth 10000
namespace Go.Eng
open Go
def Small (s : StD) : Prop := ∀ n ∈ s.nodes, n.labels.length * 32 ≤ 140737488355328 ∧ n.taints.length * 32 ≤ 140737488355328
def accM (b : Bool) (sz n : Nat) : V :=
 match b with
 | true => .ms (.g 0) sz 0 n
 | false => .nils
def accG (b : Bool) (sz : Nat) (es : List (List V)) : Heap :=
 match b with
 | true => ⟨1, [(0, .arr sz es)]⟩
 | false => noG
def withoutD (s : StD) (gs : List Str) : StD := ⟨s.nodes, s.pods.filter fun q => !(gs.any fun g => q.name == g)⟩
theorem pure_aggm {Q : V → Prop} {k sz a n : Nat} {es ds : List (List V)} {ns : List (List V)} {h' : Heap} (h : h'.get k = some (.arr sz es)) (hd : deepElems es = some ds) (hn : a + n ≤ ds.length) (hq : Q (.agg [.sl none 6 ns, .sl none sz ((ds.drop a).take n)])) : PureAt Q (.agg [.sl none 6 ns, .ms (.g k) sz a n]) h' :=
 pure_ce (u := .agg [.sl none 6 ns, .sl none sz ((ds.drop a).take n)]) (fz1 k sz ds) (fz1_of h hd) (.inl (.inr (.inl ⟨_, _, rfl, rfl, ⟨ce_flat rfl, .frz (by simp [fz1]) hn rfl, trivial⟩⟩))) rfl hq
section
variable {P : Program} (hG : FnsOk P AF.fns.get)
include hG
theorem nodes_ok (s : StD) (h6 : s.nodes.length ≤ 1000) (hsm : Small s) : Pure P 118 [stV s] (· = .sl none 6 (s.nodes.map nodeR)) := by
 have hlm : (s.nodes.map nodeR).length = s.nodes.length := List.length_map _
 refine pure_fn (hG _ AF.f118 rfl) rfl ?_
 ((conv => whnf); repeat ((first | refine zz ?_) <;> (conv => whnf)))
 refine SLoopZ.by (fun q fr st => ∃ (i : Nat) (b : Bool) (es : List NodeD), i ≤ s.nodes.length ∧ q = s.nodes.length - i ∧ es = s.nodes.take i ∧ (b = false → es = []) ∧
  fr = [(9, .i .i64 i), (8, .i .i64 (s.nodes.map nodeR).length), (7, .sl none 6 (s.nodes.map nodeR)), (3, accV b 0 6 (es.map nodeR))] ∧ st = accS b 0 [])
  s.nodes.length ⟨_, _, ?_, 0, false, [], Nat.zero_le _, rfl, rfl, fun _ => rfl, rfl, rfl⟩ ?_
 · exact tL0
 rintro q fr st ⟨i, b, es, hi, rfl, hes, hb, rfl, rfl⟩ R hR
 have hesl : es.length ≤ i := by
  rw [hes]
  exact List.length_take_le _ _
 (conv => whnf)
 refine SIf.ds (fun hlt => ?_) (fun hge => ?_)
 · have hi' : i < s.nodes.length := by omega
   have he := gE hi'
   have hm := List.getElem_mem hi'
   generalize s.nodes[i] = e at he hm
   have hc := copyNode_ok hG e (hsm e hm).1 (hsm e hm).2
   have h1 : es ++ [e] = s.nodes.take (i + 1) := by rw [take_succ' he, ← hes]
   have hint : es.map nodeR ++ [nodeR e] = (es ++ [e]).map nodeR := by rw [List.map_append]; rfl
   cases b
   · obtain rfl : es = [] := hb rfl
     ((conv => whnf); repeat ((first | refine cA (Pure.go hc rfl) ?_ | refine ye (map_get' (by omega) he) ?_ | refine zz ?_) <;> (conv => whnf)))
     refine hR (s.nodes.length - (i + 1)) _ _ (by omega) ⟨_, _, ?_, i + 1, true, [] ++ [e], by omega, rfl, h1, (fun h => by cases h), rfl, rfl⟩
     exact tL [2]
   · ((conv => whnf); repeat ((first | refine cA (Pure.go hc rfl) ?_ | refine ye (congrArg some hint) ?_ | refine SChk.mk (by simp [roomOk]; omega) ?_ | refine SIf.df (by simp only [List.length_cons, List.length_nil, List.length_map]; omega) ?_ | refine ye (map_get' (by omega) he) ?_ | refine zz ?_) <;> (conv => whnf)))
     refine hR (s.nodes.length - (i + 1)) _ _ (by omega) ⟨_, _, ?_, i + 1, true, es ++ [e], by omega, rfl, h1, (fun h => by cases h), rfl, rfl⟩
     exact tL [3]
 · have hall : es = s.nodes := by rw [hes, List.take_of_length_le (by omega)]
   rw [← hall]
   cases b
   · obtain rfl : es = [] := hb rfl
     ((conv => whnf); repeat ((first | refine zz ?_) <;> (conv => whnf)))
     exact pure_nil rfl
   · ((conv => whnf); repeat ((first | refine zz ?_) <;> (conv => whnf)))
     exact pure_tok rfl
theorem without_ok (s : StD) (gs : List Str) (h6 : s.nodes.length ≤ 1000) (hs : s.ok) (hsm : Small s) (hr : ∀ q ∈ s.pods, PodRoom q) (hgl : LenOk gs) : Pure P 48 [stV s, .sl none 1 (gs.map strR)] (· = stV (withoutD s gs)) := by
 have hlm : (s.pods.map podR).length = s.pods.length := List.length_map _
 have hl := hs.pods
 have hsome := hs.some
 unfold LenOk at hl
 have hn := nodes_ok hG s h6 hsm
 obtain ⟨f, hf⟩ : ∃ f : PodD → Bool, f = fun q => !(gs.any fun g => q.name == g) := ⟨_, rfl⟩
 refine pure_fn (hG _ AF.f48 rfl) rfl ?_
 ((conv => whnf); repeat ((first | refine cA (Pure.go hn rfl) ?_ | refine zz ?_) <;> (conv => whnf)))
 refine SLoopZ.by (fun q fr st => ∃ (i : Nat) (b : Bool) (es : List PodD) (n : Nat), i ≤ s.pods.length ∧ q = s.pods.length - i ∧ es = (s.pods.take i).filter f ∧ (b = false → es = []) ∧ n = es.length ∧
  fr = [(14, .i .i64 i), (13, .i .i64 (s.pods.map podR).length), (12, .sl none 16 (s.pods.map podR)), (5, .p (.l 1) 0), (4, .p (.l 0) 0), (1, .sl none 1 (gs.map strR))] ∧
  st = ⟨accG b 16 (es.map podR), ⟨2, [(1, .cs [.sl none 6 (s.nodes.map nodeR), accM b 16 n]), (0, .cs [.nils, .nils])]⟩⟩)
  s.pods.length ⟨_, _, ?_, 0, false, [], 0, Nat.zero_le _, rfl, rfl, fun _ => rfl, rfl, rfl, rfl⟩ ?_
 · exact tG [] [1, 2]
 rintro q fr st ⟨i, b, es, n, hi, rfl, hes, hb, hn, rfl, rfl⟩ R hR
 have hesl : es.length ≤ i := by
  rw [hes]
  exact Nat.le_trans (List.length_filter_le _ _) (List.length_take_le _ _)
 have hem : (es.map podR).length = es.length := List.length_map _
 (conv => whnf)
 refine SIf.ds (fun hlt => ?_) (fun hge => ?_)
 · have hi' : i < s.pods.length := by omega
   have he := gE hi'
   have hme := hr _ (List.getElem_mem hi')
   generalize s.pods[i] = e at he hme
   have hc := copyPod_ok hG e hme
   have hct := ct_string hG gs e.name hgl
   have hfe : f e = !(gs.any fun g => e.name == g) := by rw [hf]
   have h1 : f e = true → es ++ [e] = (s.pods.take (i + 1)).filter f := fun h => by
    rw [take_succ' he, List.filter_append, ← hes]
    simp [h]
   have h0 : f e = false → es = (s.pods.take (i + 1)).filter f := fun h => by
    rw [take_succ' he, List.filter_append, ← hes]
    simp [h]
   rw [hfe] at h1 h0
   generalize (gs.any fun g => e.name == g) = c at hct h1 h0
   cases c <;> cases b
   · obtain rfl : es = [] := hb rfl
     ((conv => whnf); repeat ((first | refine cA (Pure.go hct rfl) ?_ | refine cA (Pure.go hc rfl) ?_ | refine ye (map_get' (by omega) he) ?_ | refine zz ?_) <;> (conv => whnf)))
     refine hR (s.pods.length - (i + 1)) _ _ (by omega) ⟨_, _, ?_, i + 1, true, [] ++ [e], 1, by omega, rfl, h1 rfl, (fun h => by cases h), rfl, rfl, rfl⟩
     exact tG [1] [0, 1]
   · ((conv => whnf); repeat ((first | refine cA (Pure.go hct rfl) ?_ | refine cA (Pure.go hc rfl) ?_ | refine SChk.mk (by simp [roomOk]; omega) ?_ | refine SIf.df (by simp only [List.length_cons, List.length_nil, List.length_map]; omega) ?_ | refine ye (map_get' (by omega) he) ?_ | refine zz ?_) <;> (conv => whnf)))
     refine hR (s.pods.length - (i + 1)) _ _ (by omega) ⟨_, _, ?_, i + 1, true, es ++ [e], n + 1, by omega, rfl, h1 rfl, (fun h => by cases h), by simp [hn], rfl, rfl⟩
     exact tG [2] [0, 1]
   · obtain rfl : es = [] := hb rfl
     ((conv => whnf); repeat ((first | refine cA (Pure.go hct rfl) ?_ | refine ye (map_get' (by omega) he) ?_ | refine zz ?_) <;> (conv => whnf)))
     refine hR (s.pods.length - (i + 1)) _ _ (by omega) ⟨_, _, ?_, i + 1, false, [], 0, by omega, rfl, h0 rfl, fun _ => rfl, rfl, rfl, rfl⟩
     exact tG [] [0, 1]
   · ((conv => whnf); repeat ((first | refine cA (Pure.go hct rfl) ?_ | refine ye (map_get' (by omega) he) ?_ | refine zz ?_) <;> (conv => whnf)))
     refine hR (s.pods.length - (i + 1)) _ _ (by omega) ⟨_, _, ?_, i + 1, true, es, n, by omega, rfl, h0 rfl, (fun h => by cases h), hn, rfl, rfl⟩
     exact tG [0] [0, 1]
 · have hall : es = (withoutD s gs).pods := by
    rw [hes, List.take_of_length_le (by omega), hf]
    rfl
   have fin : stV ⟨s.nodes, es⟩ = stV (withoutD s gs) := by rw [hall]; rfl
   cases b
   · obtain rfl : es = [] := hb rfl
     ((conv => whnf); repeat ((first | refine zz ?_) <;> (conv => whnf)))
     exact pure_agg1 celA rfl fin
   · ((conv => whnf); repeat ((first | refine zz ?_) <;> (conv => whnf)))
     refine pure_aggm rfl (deep_map (fun _ => rfl) es) (by omega) ?_
     rw [List.drop_zero, List.take_of_length_le (by omega)]
     exact fin
end
end Go.Eng
/-
A state with a pod: put where its name has it.
-/
namespace Go.Eng
open Go
theorem takeWhile_at {α : Type} {f : α → Bool} {l : List α} {i : Nat} (hi : i ≤ l.length) (hb : ∀ (j : Nat) (x : α), j < i → l[j]? = some x → f x = true) (he : ∀ x, l[i]? = some x → f x = false) : (l.takeWhile f).length = i := by
 induction l generalizing i with
 | nil => simp at hi; simp [hi]
 | cons a r ih =>
   cases i with
   | zero =>
     have := he a rfl
     simp [List.takeWhile, this]
   | succ i =>
     have h0 := hb 0 a (by omega) rfl
     simp only [List.takeWhile, h0, List.length_cons]
     rw [ih (by simpa using hi) (fun j x hj hx => hb (j + 1) x (by omega) (by simpa using hx)) (fun x hx => he x (by simpa using hx))]
theorem ixRes_some {α : Type} {p : α → Bool} {l : List α} {j : Nat} (h : l.findIdx? p = some j) : ixRes p l = j := by rw [ixRes, h]
theorem ixRes_none {α : Type} {p : α → Bool} {l : List α} (h : l.findIdx? p = none) : ixRes p l = -1 := by rw [ixRes, h]
theorem ixm_pod {P : Program} {f : Nat} (hk : okFn P f (ixfText 16 (some 16)) = true) {l : List PodD} {g : Nat} {k r : Nat} {h : Heap} {p : PodD → Bool} (hl : l.length ≤ 9223372036854775807) (hr : h.get r = some (.arr 16 (l.map podR)))
 (hg : ∀ e ∈ l, ∀ K : V → Heap → Prop, K (.b (p e)) h → ACall P g [.agg (podR e), .p (.g k) 0] h K) {K : V → Heap → Prop} (n : Int) (hn : ixRes p l = n) (hK : K (.i .i64 n) h) : ACall P f [.ms (.g r) 16 0 l.length, .fn g [] [.p (.g k) 0]] h K := by
 subst hn
 have hlm : (l.map podR).length = l.length := List.length_map _
 refine fn_sp hk rfl ?_
 ((conv => whnf); repeat ((first | refine SIf.ff rfl ?_ | refine SIf.tt rfl ?_ | refine SOpt.of rfl ?_ | refine SChk.mk rfl ?_ | refine SSame.mk rfl ?_ | refine ye rfl ?_) <;> (conv => whnf)))
 refine SLoop.by (fun q fr st => ∃ i : Nat, i ≤ l.length ∧ q = l.length - i ∧ (∀ (j : Nat) (e : PodD), j < i → l[j]? = some e → p e = false) ∧ Fr.le [(8, .i .i64 i), (7, .i .i64 l.length), (1, .fn g [] [.p (.g k) 0]), (0, .ms (.g r) 16 0 l.length)] fr ∧ st = gst h)
  l.length ⟨0, Nat.zero_le _, rfl, fun j e hj => absurd hj (Nat.not_lt_zero _), fle, rfl⟩ ?_
 rintro q fr st ⟨i, hi, rfl, hok, hle, rfl⟩
 refine ⟨_, hle, fun R hR => ?_⟩
 ((conv => whnf); repeat ((first | refine SIf.ff rfl ?_ | refine SIf.tt rfl ?_ | refine SOpt.of rfl ?_ | refine SChk.mk rfl ?_ | refine SSame.mk rfl ?_ | refine ye rfl ?_) <;> (conv => whnf)))
 refine SIf.ds (fun hlt => ?_) (fun hge => ?_)
 · have hi' : i < l.length := by omega
   have he := gE hi'
   have hm := List.getElem_mem hi'
   generalize l[i] = e at he hm
   ((conv => whnf); repeat ((first | refine SChk.ix (by omega) (by omega) ?_ | refine SIf.ff rfl ?_ | refine SIf.tt rfl ?_ | refine SOpt.of rfl ?_ | refine SChk.mk rfl ?_ | refine SSame.mk rfl ?_ | refine ye (hr) ?_ | refine ye (map_get' (by simp) he) ?_ | refine ye rfl ?_) <;> (conv => whnf)))
   refine SCall.mk (hg e hm _ ?_)
   ((conv => whnf); repeat ((first | refine SIf.ff rfl ?_ | refine SIf.tt rfl ?_ | refine SOpt.of rfl ?_ | refine SChk.mk rfl ?_ | refine SSame.mk rfl ?_ | refine ye rfl ?_) <;> (conv => whnf)))
   refine SIf.mk (fun hp => ?_) (fun hp => ?_)
   · ((conv => whnf); repeat ((first | refine SIf.ff rfl ?_ | refine SIf.tt rfl ?_ | refine SOpt.of rfl ?_ | refine SChk.mk rfl ?_ | refine SSame.mk rfl ?_ | refine ye rfl ?_) <;> (conv => whnf)))
     rw [findIdx_some he hp hok] at hK
     exact hK
   · ((conv => whnf); repeat ((first | refine SWrap.w64 (by omega) (by omega) ?_ | refine SIf.ff rfl ?_ | refine SIf.tt rfl ?_ | refine SOpt.of rfl ?_ | refine SChk.mk rfl ?_ | refine SSame.mk rfl ?_ | refine ye rfl ?_) <;> (conv => whnf)))
     refine hR (l.length - (i + 1)) _ _ (by omega) ⟨i + 1, by omega, rfl, fun j x hj hx => ?_, fle, rfl⟩
     by_cases hji : j < i
     · exact hok j x hji hx
     · obtain rfl : j = i := by omega
       rw [he] at hx; cases hx; exact hp
 · ((conv => whnf); repeat ((first | refine SIf.ff rfl ?_ | refine SIf.tt rfl ?_ | refine SOpt.of rfl ?_ | refine SChk.mk rfl ?_ | refine SSame.mk rfl ?_ | refine ye rfl ?_) <;> (conv => whnf)))
   rw [findIdx_none fun j x hx => hok j x (by have := (List.getElem?_eq_some_iff.1 hx).1; omega) hx] at hK
   exact hK
theorem Made.state {P : Program} {f : Nat} {args : List V} {ns : List (List V)} {es : List PodD} (h0 : ACall P f args noG (MadeAt fun u sz rs => u = .agg [.sl none 6 ns, .ms (.g 0) 16 0 es.length] ∧ sz = 16 ∧ rs = es.map podR)) (ha : args.all V.free = true) {h : Heap} {K : V → Heap → Prop}
 (hK : K (.agg [.sl none 6 ns, .ms (.g h.next) 16 0 es.length]) (h.push (.arr 16 (es.map podR)))) : ACall P f args h K :=
 h0.made ha fun u sz rs ⟨h1, h2, h3⟩ => by subst h1; subst h2; subst h3; exact hK
theorem MadeAt.of {Q : V → Nat → List (List V) → Prop} {v u : V} {sz : Nat} {es : List (List V)} {h' : Heap} (ht : TelR [(0, v)] (gst h') [(0, u)] ⟨⟨1, [(0, .arr sz es)]⟩, ⟨0, []⟩⟩) (hu : u.made = true) (hf : ∀ e ∈ es, e.all V.flat = true) (hq : Q u sz es) : MadeAt Q v h' := by
 exact ⟨u, sz, es, ht, hu, hf, hq⟩
section
variable {P : Program} (hG : FnsOk P AF.fns.get)
include hG
end
end Go.Eng
