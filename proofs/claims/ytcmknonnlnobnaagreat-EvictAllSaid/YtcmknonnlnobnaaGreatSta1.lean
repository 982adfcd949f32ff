/-
Who is on a node.
-/
import Derived.Test.YtcmknonnlnobnaaGreatWiA
import Derived.Test.YtcmknonnlnobnaaGreatFitC
set_option maxHeartbeats 4000000
set_option maxRecDepth 10000
namespace Go.Eng
open Go
section
variable {P : Program} (hG : FnsOk P AF.fns.get)
include hG
theorem on_ok (s : StD) (node : Str) (hs : s.ok) (hr : ∀ q ∈ s.pods, PodRoom q) : Pure P 42 [stV s, .s node] (· = .sl none 16 ((onD s node).map podR)) := by
 have hlm : (s.pods.map podR).length = s.pods.length := List.length_map _
 have hl := hs.pods
 have hsm := hs.some
 unfold LenOk at hl
 obtain ⟨f, hf⟩ : ∃ f : PodD → Bool, f = fun p => p.node == node && !(node == []) := ⟨_, rfl⟩
 refine pure_fn (hG _ AF.f42 rfl) rfl ?_
 ((conv => whnf); repeat ((first | refine zz ?_) <;> (conv => whnf)))
 refine SLoopZ.by (fun q fr st => ∃ (i : Nat) (b : Bool) (es : List PodD) (n : Nat), i ≤ s.pods.length ∧ q = s.pods.length - i ∧ es = (s.pods.take i).filter f ∧ (b = false → es = []) ∧ n = es.length ∧
  fr = [(11, .i .i64 i), (10, .i .i64 (s.pods.map podR).length), (9, .sl none 16 (s.pods.map podR)), (5, accM b 16 n), (1, .s node)] ∧ st = ⟨accG b 16 (es.map podR), noL⟩)
  s.pods.length ⟨_, _, ?_, 0, false, [], 0, Nat.zero_le _, rfl, rfl, fun _ => rfl, rfl, rfl, rfl⟩ ?_
 · exact tL0
 rintro q fr st ⟨i, b, es, n, hi, rfl, hes, hb, hn, rfl, rfl⟩ R hR
 have hesl : es.length ≤ i := by
  rw [hes]
  exact Nat.le_trans (List.length_filter_le _ _) (List.length_take_le _ _)
 have hem : (es.map podR).length = es.length := List.length_map _
 (conv => whnf)
 refine SIf.ds (fun hlt => ?_) (fun hge => ?_)
 · have hi' : i < s.pods.length := by omega
   have he := gE hi'
   have hme := hr _ (List.getElem_mem hi')
   generalize s.pods[i] = e at he hme
   have hc := copyPod_ok hG e hme
   have h1 : f e = true → es ++ [e] = (s.pods.take (i + 1)).filter f := fun h => by
    rw [take_succ' he, List.filter_append, ← hes]
    simp [h]
   have h0 : f e = false → es = (s.pods.take (i + 1)).filter f := fun h => by
    rw [take_succ' he, List.filter_append, ← hes]
    simp [h]
   cases b
   · obtain rfl : es = [] := hb rfl
     ((conv => whnf); repeat' ((first | refine cA (Pure.go hc rfl) ?_ | refine ye (map_get' (by omega) he) ?_ | refine zz ?_ | refine SIf.ds (fun _ => ?_) (fun _ => ?_) | refine SIf.ns (fun _ => ?_) (fun _ => ?_) | refine SIf.mk (fun _ => ?_) (fun _ => ?_) | (intro r hr; cases r)) <;> (conv => whnf)))
     · have hfe : f e = true := by rw [hf]; simp_all
       refine hR (s.pods.length - (i + 1)) _ _ (by omega) ⟨_, _, ?_, i + 1, true, [] ++ [e], 1, by omega, rfl, h1 hfe, (fun h => by cases h), rfl, rfl, rfl⟩
       exact tG [1] []
     all_goals
      have hfe : f e = false := by rw [hf]; simp_all
      refine hR (s.pods.length - (i + 1)) _ _ (by omega) ⟨_, _, ?_, i + 1, false, [], 0, by omega, rfl, h0 hfe, (fun _ => rfl), rfl, rfl, rfl⟩
      exact tL0
   · ((conv => whnf); repeat' ((first | refine cA (Pure.go hc rfl) ?_ | refine SChk.mk (by simp [roomOk]; omega) ?_ | refine SIf.df (by simp only [List.length_cons, List.length_nil, List.length_map]; omega) ?_ | refine ye (map_get' (by omega) he) ?_ | refine zz ?_ | refine SIf.ds (fun _ => ?_) (fun _ => ?_) | refine SIf.ns (fun _ => ?_) (fun _ => ?_) | refine SIf.mk (fun _ => ?_) (fun _ => ?_) | (intro r hr; cases r)) <;> (conv => whnf)))
     · have hfe : f e = true := by rw [hf]; simp_all
       refine hR (s.pods.length - (i + 1)) _ _ (by omega) ⟨_, _, ?_, i + 1, true, es ++ [e], n + 1, by omega, rfl, h1 hfe, (fun h => by cases h), by simp [hn], rfl, rfl⟩
       exact tG [2] []
     all_goals
       have hfe : f e = false := by rw [hf]; simp_all
       refine hR (s.pods.length - (i + 1)) _ _ (by omega) ⟨_, _, ?_, i + 1, true, es, n, by omega, rfl, h0 hfe, (fun h => by cases h), hn, rfl, rfl⟩
       exact tG [0] []
 · have hall : es = onD s node := by
    rw [hes, List.take_of_length_le (by omega), hf]
    rfl
   rw [← hall]
   cases b
   · obtain rfl : es = [] := hb rfl
     ((conv => whnf); repeat ((first | refine zz ?_) <;> (conv => whnf)))
     exact pure_nil rfl
   · ((conv => whnf); repeat ((first | refine zz ?_) <;> (conv => whnf)))
     exact pure_ms rfl (deep_map (fun _ => rfl) es) (by omega) (by rw [List.drop_zero, List.take_of_length_le (by omega)])
end
end Go.Eng
