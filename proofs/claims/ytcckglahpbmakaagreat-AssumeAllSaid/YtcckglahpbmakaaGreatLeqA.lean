/-
Arguments told less of, pointers left as they are.
-/
import Derived.Test.YtcckglahpbmakaaGreatEngD
namespace Go.Eng
open Go
def LeL : List V → List V → Prop
  | [], [] => True
  | u :: r, v :: q => (u = v ∨ Ce1 ren0 ⟨0, 0⟩ noFz u v) ∧ LeL r q
  | _, _ => False
theorem LeL.spec : ∀ {l r : List V}, LeL l r → l.length = r.length ∧ ∀ (j : Nat) (v : V), r[j]? = some v → ∃ u, l[j]? = some u ∧ (u = v ∨ Ce1 ren0 ⟨0, 0⟩ noFz u v)
  | [], [], _ => ⟨rfl, fun j v h => by simp at h⟩
  | [], _ :: _, h => h.elim
  | _ :: _, [], h => h.elim
  | u :: r, v :: q, h => by
    obtain ⟨h1, h2⟩ := h
    obtain ⟨c1, c2⟩ := LeL.spec h2
    refine ⟨by simp [c1], fun j x hj => ?_⟩
    cases j with
    | zero => simp at hj; subst hj; exact ⟨u, rfl, h1⟩
    | succ j => simp at hj; obtain ⟨y, hy, hc⟩ := c2 j x hj; exact ⟨y, by simpa using hy, hc⟩
theorem ACall.leq {P : Program} {f : Nat} {args args' : List V} {h : Heap} {K : V → Heap → Prop} (hr : LeL args args') (h0 : ACall P f args' h K) : ACall P f args h K := by
  refine ⟨h0.1, fun E w vs hnl hs hv => h0.2 E w vs hnl hs ?_⟩
  obtain ⟨c1, c2⟩ := hr.spec
  refine ⟨by have := hv.1; omega, fun j v x hj hx => ?_⟩
  obtain ⟨u, hu, hc | hc⟩ := c2 j v hj
  · subst hc; exact hv.2 j u x hu hx
  · exact ce1_nw hc (hv.2 j u x hu hx)
end Go.Eng
