/-
Where the fewest go.
-/
import Derived.Test.YtkkpkcjcaogceaaGreatEvT
import Derived.Test.YtkkpkcjcaogceaaGreatEvM
set_option linter.unusedVariables false
set_option linter.unusedSimpArgs false
namespace Go.Eng
open Go
def costC (b : BestV) : List V :=
  match b with
  | none => [.i .i64 0, .i .i64 0, .i .i64 0]
  | some d => [.i .i64 d.2.2.1, .i .i64 d.2.2.2.1, .i .i64 d.2.2.2.2]
def doC (pod : Str) (b : BestV) : List V :=
  match b with
  | none => [.s [], .s [], .sl none 1 []]
  | some d => [.s pod, .s d.1, .sl none 1 (d.2.1.map strR)]
section
variable {P : Program} (hG : FnsOk P AF.fns.get)
include hG
set_option maxHeartbeats 16000000 in
set_option maxRecDepth 20000 in
theorem evbest_ok (hcmp : CmpOk P) (hS : SortOk P 46 42)
    (s : StD) (p : PodD) (hs : s.ok) (hp : p.fit) (hsm : Small s) (h6 : s.nodes.length ≤ 6) (h19 : s.pods.length ≤ 19) (hr : ∀ q ∈ s.pods, PodRoom q) (hso : s.nodes.Pairwise fun a b => lessS a.name b.name) :
    Pure P 15 [stV s, .agg (podR p)] (· = .tup [.agg (doC p.name (evictD s p)), .b (evictD s p).isSome]) := by
  have hlm : (s.nodes.map nodeR).length = s.nodes.length := List.length_map _
  have hc := clone_node hG s.nodes (by omega)
  have hst := stablen_ok hG hcmp s.nodes (by omega) hso
  refine pure_fn (hG _ AF.f15 rfl) rfl ?_
  ((conv => whnf); repeat ((first | refine SCall.app (Pure.go hc rfl) ?_ | refine SCall.app (Pure.go hst rfl) ?_ | refine yf rfl ?_ | refine yt rfl ?_ | refine yo rfl ?_ | refine yc rfl ?_ | refine ys rfl ?_ | refine ye rfl ?_ | refine yn rfl ?_ | refine zw ?_ | refine zdt ?_ | refine zdf ?_ | refine znt ?_ | refine znf ?_ | refine zcd ?_ | refine zci ?_ | refine zc3 ?_) <;> (conv => whnf)))
  refine SLoopZ.by (fun q fr st => ∃ (i : Nat) (b : BestV), i ≤ s.nodes.length ∧ q = s.nodes.length - i ∧ evictD s p = (s.nodes.drop i).foldl (bestStep s p) b ∧
      fr = [(22, .i .i64 i), (21, .i .i64 (s.nodes.map nodeR).length), (20, .sl none 6 (s.nodes.map nodeR)), (8, .b b.isSome), (7, .p (.l 4) 0), (6, .p (.l 3) 0), (4, .p (.l 2) 0), (3, .p (.l 1) 0), (2, .p (.l 0) 0)] ∧
      st = ⟨noG, ⟨5, [(4, .cs (costC b)), (3, .cs (doC p.name b)), (2, .cs [.s [], .s [], .sl none 1 []]), (1, .cs (podR p)), (0, .cs [.sl none 6 (s.nodes.map nodeR), .sl none 16 (s.pods.map podR)])]⟩⟩)
    s.nodes.length ⟨_, _, ?_, 0, none, Nat.zero_le _, rfl, rfl, rfl, rfl⟩ ?_
  · exact tL [0, 1, 2, 3, 4]
  rintro q fr st ⟨i, b, hi, rfl, hb, rfl, rfl⟩ R hR
  generalize evictD s p = E at hb hR ⊢
  (conv => whnf)
  refine SIf.ds (fun hlt => ?_) (fun hge => ?_)
  · have hi' : i < s.nodes.length := by omega
    have he := List.getElem?_eq_getElem hi'
    have hdr : s.nodes.drop i = s.nodes[i] :: s.nodes.drop (i + 1) := List.drop_eq_getElem_cons hi'
    rw [hdr, List.foldl_cons] at hb
    generalize s.nodes[i] = e at he hb
    have hv := vict_ok hG hcmp hS s p e.name hs hp hsm (by omega) h19 hr
    cases hvd : victD s p e.name with
    | none =>
      rw [hvd] at hv
      have h1 : bestStep s p b e = b := by unfold bestStep; rw [hvd]
      rw [h1] at hb
      cases b
      all_goals ((conv => whnf); repeat ((first | refine SCall.app (Pure.go hv rfl) ?_ | refine SEx.of (map_get' (by omega) he) ?_ | refine yf rfl ?_ | refine yt rfl ?_ | refine yo rfl ?_ | refine yc rfl ?_ | refine ys rfl ?_ | refine ye rfl ?_ | refine yn rfl ?_ | refine zw ?_ | refine zdt ?_ | refine zdf ?_ | refine znt ?_ | refine znf ?_ | refine zcd ?_ | refine zci ?_ | refine zc3 ?_) <;> (conv => whnf)))
      all_goals refine hR (s.nodes.length - (i + 1)) _ _ (by omega) ⟨_, _, ?_, i + 1, _, by omega, rfl, hb, rfl, rfl⟩
      all_goals exact tL [0, 1, 2, 3, 4]
    | some l =>
      rw [hvd] at hv
      have hll := vict_len hvd
      have hco := costs_ok hG s l hs hr (by omega)
      obtain ⟨cc, hcc⟩ : ∃ cc, cc = costD s l := ⟨_, rfl⟩
      rw [← hcc] at hco
      cases b with
      | none =>
        have h1 : bestStep s p none e = some (e.name, l, cc) := by unfold bestStep; rw [hvd, hcc]
        rw [h1] at hb
        ((conv => whnf); repeat ((first | refine SCall.app (Pure.go hv rfl) ?_ | refine SCall.app (Pure.go hco rfl) ?_ | refine SEx.of (map_get' (by omega) he) ?_ | refine yf rfl ?_ | refine yt rfl ?_ | refine yo rfl ?_ | refine yc rfl ?_ | refine ys rfl ?_ | refine ye rfl ?_ | refine yn rfl ?_ | refine zw ?_ | refine zdt ?_ | refine zdf ?_ | refine znt ?_ | refine znf ?_ | refine zcd ?_ | refine zci ?_ | refine zc3 ?_) <;> (conv => whnf)))
        refine hR (s.nodes.length - (i + 1)) _ _ (by omega) ⟨_, _, ?_, i + 1, some (e.name, l, cc), by omega, rfl, hb, rfl, rfl⟩
        exact tL [0, 1, 2, 3, 4]
      | some d =>
        obtain ⟨d1, d2, dc⟩ := d
        have hle := lessC_ok hG cc dc
        cases hlc : lessC cc dc with
        | true =>
          have h1 : bestStep s p (some (d1, d2, dc)) e = some (e.name, l, cc) := by unfold bestStep; rw [hvd]; dsimp only; rw [← hcc, if_pos hlc]
          rw [h1] at hb
          rw [hlc] at hle
          ((conv => whnf); repeat ((first | refine SCall.app (Pure.go hv rfl) ?_ | refine SCall.app (Pure.go hco rfl) ?_ | refine SCall.app (Pure.go hle rfl) ?_ | refine SEx.of (map_get' (by omega) he) ?_ | refine yf rfl ?_ | refine yt rfl ?_ | refine yo rfl ?_ | refine yc rfl ?_ | refine ys rfl ?_ | refine ye rfl ?_ | refine yn rfl ?_ | refine zw ?_ | refine zdt ?_ | refine zdf ?_ | refine znt ?_ | refine znf ?_ | refine zcd ?_ | refine zci ?_ | refine zc3 ?_) <;> (conv => whnf)))
          refine hR (s.nodes.length - (i + 1)) _ _ (by omega) ⟨_, _, ?_, i + 1, some (e.name, l, cc), by omega, rfl, hb, rfl, rfl⟩
          exact tL [0, 1, 2, 3, 4]
        | false =>
          have h1 : bestStep s p (some (d1, d2, dc)) e = some (d1, d2, dc) := by unfold bestStep; rw [hvd]; dsimp only; rw [← hcc, if_neg (by rw [hlc]; decide)]
          rw [h1] at hb
          rw [hlc] at hle
          ((conv => whnf); repeat ((first | refine SCall.app (Pure.go hv rfl) ?_ | refine SCall.app (Pure.go hco rfl) ?_ | refine SCall.app (Pure.go hle rfl) ?_ | refine SEx.of (map_get' (by omega) he) ?_ | refine yf rfl ?_ | refine yt rfl ?_ | refine yo rfl ?_ | refine yc rfl ?_ | refine ys rfl ?_ | refine ye rfl ?_ | refine yn rfl ?_ | refine zw ?_ | refine zdt ?_ | refine zdf ?_ | refine znt ?_ | refine znf ?_ | refine zcd ?_ | refine zci ?_ | refine zc3 ?_) <;> (conv => whnf)))
          refine hR (s.nodes.length - (i + 1)) _ _ (by omega) ⟨_, _, ?_, i + 1, some (d1, d2, dc), by omega, rfl, hb, rfl, rfl⟩
          exact tL [0, 1, 2, 3, 4]
  · have hd0 : s.nodes.drop i = [] := List.drop_of_length_le (by omega)
    rw [hd0, List.foldl_nil] at hb
    subst hb
    cases E
    all_goals ((conv => whnf); repeat ((first | refine yf rfl ?_ | refine yt rfl ?_ | refine yo rfl ?_ | refine yc rfl ?_ | refine ys rfl ?_ | refine ye rfl ?_ | refine yn rfl ?_ | refine zw ?_ | refine zdt ?_ | refine zdf ?_ | refine znt ?_ | refine znf ?_ | refine zcd ?_ | refine zci ?_ | refine zc3 ?_) <;> (conv => whnf)))
    all_goals exact pure_free rfl rfl
end
end Go.Eng
