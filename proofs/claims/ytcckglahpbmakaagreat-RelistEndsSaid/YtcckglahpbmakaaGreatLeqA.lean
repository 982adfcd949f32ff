/-
Arguments told less of, pointers left as they are.
-/
import Derived.Test.YtcckglahpbmakaaGreatEngD
namespace Go.Eng
open Go
def LeL : List V → List V → Prop
  | [], [] => True
  | u :: r, v :: q => (u = v ∨ Ce1 ren0 ⟨0, 0⟩ noFz u v) ∧ LeL r q
  | _, _ => False
theorem LeL.spec : ∀ {l r : List V}, LeL l r → l.length = r.length ∧ ∀ (j : Nat) (v : V), r[j]? = some v → ∃ u, l[j]? = some u ∧ (u = v ∨ Ce1 ren0 ⟨0, 0⟩ noFz u v)
  | [], [], _ => ⟨rfl, fun j v h => by simp at h⟩
  | [], _ :: _, h => h.elim
  | _ :: _, [], h => h.elim
  | u :: r, v :: q, h => by
    obtain ⟨h1, h2⟩ := h
    obtain ⟨c1, c2⟩ := LeL.spec h2
    refine ⟨by simp [c1], fun j x hj => ?_⟩
    cases j with
    | zero => simp at hj; subst hj; exact ⟨u, rfl, h1⟩
    | succ j => simp at hj; obtain ⟨y, hy, hc⟩ := c2 j x hj; exact ⟨y, by simpa using hy, hc⟩
theorem ACall.leq {P : Program} {f : Nat} {args args' : List V} {h : Heap} {K : V → Heap → Prop} (hr : LeL args args') (h0 : ACall P f args' h K) : ACall P f args h K := by
  refine ⟨h0.1, fun E w vs hnl hs hv => h0.2 E w vs hnl hs ?_⟩
  obtain ⟨c1, c2⟩ := hr.spec
  refine ⟨by have := hv.1; omega, fun j v x hj hx => ?_⟩
  obtain ⟨u, hu, hc | hc⟩ := c2 j v hj
  · subst hc; exact hv.2 j u x hu hx
  · exact ce1_nw hc (hv.2 j u x hu hx)
theorem ACall.tell {P : Program} {f : Nat} {args : List V} {h : Heap} {K K2 : V → Heap → Prop} (hA : ACall P f args h K) (hm : ∀ v h', K v h' → ∃ v', (∀ (E : Env) (x : Value), Rel E v x → Rel E v' x) ∧ K2 v' h') : ACall P f args h K2 :=
  ⟨hA.1, fun E w vs hn hs hv => (hA.2 E w vs hn hs hv).mono fun _ _ ⟨v, x, h', E', h1, h2, h3, h4, h5, h6⟩ => by
    obtain ⟨v', q1, q2⟩ := hm v h' h1
    exact ⟨v', x, h', E', q2, h2, h3, h4, h5, q1 E' x h6⟩⟩
theorem ce_same (k : Nat) (rows : List (List V)) : Ce ren0 ⟨0, 0⟩ noFz (.sl none k rows) (.sl none k rows) := .ren (ren0_id _).symm trivial
theorem rel_ce {u v : V} (hc : Ce ren0 ⟨0, 0⟩ noFz u v) (E : Env) (x : Value) (h : Rel E u x) : Rel E v x := ce1_nw (.inl hc) h
theorem rel_agg {cs ds : List V} (hc : CeL ren0 ⟨0, 0⟩ noFz cs ds) (E : Env) (x : Value) (h : Rel E (.agg cs) x) : Rel E (.agg ds) x := ce1_nw (.inr (.inl ⟨_, _, rfl, rfl, hc⟩)) h
end Go.Eng
