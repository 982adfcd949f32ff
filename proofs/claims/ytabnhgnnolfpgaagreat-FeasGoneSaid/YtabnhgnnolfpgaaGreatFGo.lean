/-
FeasGone, as the abstract run has it.
-/
import Derived.Test.YtabnhgnnolfpgaaGreatLaw0
import Derived.Test.YtabnhgnnolfpgaaGreatFitW3
set_option linter.unusedVariables false
set_option linter.unusedSimpArgs false
namespace Go.Eng
open Go
theorem CutOf.small {s w : StD} (h : CutOf s w) : Small w := fun n hn => by
  have := h.nodes.sub n hn
  omega
section
variable {P : Program} (hG : FnsOk P AF.fns.get)
include hG
set_option maxHeartbeats 4000000 in
set_option maxRecDepth 10000 in
theorem feasGone_ok (hb : ACall P 10 [] noG (fun r _ => r = .b true)) (hcmp : ∀ (a b : Str) (h : Heap) (K : V → Heap → Prop), K (.i .i64 (cmpB a b)) h → ACall P 111 [.s a, .s b] h K) (s : StD) (p : PodD) (gone : List Str) (hs : s.arg) (hp : p.fit ∧ p.sok) (hgl : LenOk gone) :
    ACall P 6 [stV s, .agg (podR p), .sl none 1 (gone.map strR)] noG (fun r _ => r = .b true) := by
  have htm : (gone.map strR).length = gone.length := List.length_map _
  unfold LenOk at hgl
  refine fn_sz (hG _ AF.f6 rfl) rfl ?_
  ((conv => whnf); repeat ((first | refine yf rfl ?_ | refine yt rfl ?_ | refine yo rfl ?_ | refine yc rfl ?_ | refine ys rfl ?_ | refine ye rfl ?_ | refine yn rfl ?_ | refine zw ?_ | refine zdt ?_ | refine zdf ?_ | refine znt ?_ | refine znf ?_ | refine zcd ?_ | refine zci ?_ | refine zc3 ?_) <;> (conv => whnf)))
  refine ⟨hb.frame rfl fun v h' hv => ?_⟩
  subst hv
  refine ⟨rfl, ?_⟩
  obtain ⟨m, hm⟩ : ∃ m : Int, minI (((gone.map strR).length : Nat) : Int) 5 = m := ⟨_, rfl⟩
  have hm0 : 0 ≤ m ∧ m ≤ gone.length := by rw [← hm]; unfold minI; split <;> omega
  obtain ⟨gs, hgs⟩ : ∃ gs, gs = gone.take m.toNat := ⟨_, rfl⟩
  have hT : ((gone.map strR).take m.toNat).drop (Int.toNat 0) = gs.map strR := by rw [hgs, ← List.map_take]; rfl
  have hgo : LenOk gs := by rw [hgs]; unfold LenOk; rw [List.length_take]; omega
  ((conv => whnf); repeat ((first | refine SOpt.of (mn2 (z := m) hm) ?_ | refine SEx.of (congrArg some hT) ?_ | refine yf rfl ?_ | refine yt rfl ?_ | refine yo rfl ?_ | refine yc rfl ?_ | refine ys rfl ?_ | refine ye rfl ?_ | refine yn rfl ?_ | refine zw ?_ | refine zdt ?_ | refine zdf ?_ | refine znt ?_ | refine znf ?_ | refine zcd ?_ | refine zci ?_ | refine zc3 ?_) <;> (conv => whnf)))
  refine SCall.mk (Pure.state (hs.cut hG) rfl fun w hw => ?_)
  have hwo := hw.ok hs
  have hpo := hp.1.toOk
  have hsm := hw.small
  have h1o : ({ p with skew := 0 } : PodD).fit := ⟨⟨hpo.ports, hpo.labels, hpo.tols, hpo.sel, hpo.anti, hpo.even⟩, hp.1.req⟩
  have hto : (withoutD w gs).ok := by
    have hl : (withoutD w gs).pods.length ≤ w.pods.length := List.length_filter_le _ _
    exact ⟨hwo.nodes, Nat.le_trans hl hwo.pods, hwo.node, fun q hq => hwo.pod q (List.mem_filter.1 hq).1, Nat.le_trans (Nat.mul_le_mul_right _ hl) hwo.some⟩
  have hts : Small (withoutD w gs) := hsm
  have a1 := without_ok hG w gs hw.nodes.len hwo hsm (fun q hq => (hw.pmay q hq).room) hgo
  have a2 := where_ok hG hcmp w { p with skew := 0 } hwo h1o hsm hw.nodes.len hw.nodes.so
  have hwh : ∀ x ∈ whereD w { p with skew := 0 }, feasD (withoutD w gs) { p with skew := 0 } x = true := fun x hx => without_feas (where_mem hx) (Int.le_refl _)
  have hwl : (whereD w { p with skew := 0 }).length ≤ 6 := by
    rw [whereD, List.length_map]
    exact Nat.le_trans (List.length_filter_le _ _) hw.nodes.len
  generalize whereD w { p with skew := 0 } = l at a2 hwh hwl
  have hlm : (l.map strR).length = l.length := List.length_map _
  ((conv => whnf); repeat ((first | refine SOpt.of (mn2 (z := m) hm) ?_ | refine SEx.of (congrArg some hT) ?_ | refine SSame.mk (congrArg (V.sl none 1) hT.symm) ?_ | refine SCall.app (Pure.go a1 rfl) ?_ | refine SCall.app (Pure.go a2 rfl) ?_ | refine yf rfl ?_ | refine yt rfl ?_ | refine yo rfl ?_ | refine yc rfl ?_ | refine ys rfl ?_ | refine ye rfl ?_ | refine yn rfl ?_ | refine zw ?_ | refine zdt ?_ | refine zdf ?_ | refine znt ?_ | refine znf ?_ | refine zcd ?_ | refine zci ?_ | refine zc3 ?_) <;> (conv => whnf)))
  refine SLoopZ.by (fun q fr st => ∃ i : Nat, i ≤ l.length ∧ q = l.length - i ∧
      fr = [(29, .i .i64 i), (28, .i .i64 (l.map strR).length), (27, .sl none 1 (l.map strR)), (8, .p (.l 1) 0), (4, .p (.l 0) 0)] ∧
      st = ⟨noG, ⟨2, [(1, .cs [.sl none 6 ((withoutD w gs).nodes.map nodeR), .sl none 16 ((withoutD w gs).pods.map podR)]), (0, .cs (podR { p with skew := 0 }))]⟩⟩)
    l.length ⟨_, _, ?_, 0, Nat.zero_le _, rfl, rfl, rfl⟩ ?_
  · exact tL [1, 2]
  rintro q fr st ⟨i, hi, rfl, rfl, rfl⟩ R hR
  (conv => whnf)
  refine SIf.ds (fun hlt => ?_) (fun hge => ?_)
  · have hi' : i < l.length := by omega
    have he := List.getElem?_eq_getElem hi'
    have hm := List.getElem_mem hi'
    generalize l[i] = e at he hm
    have c1 := feas_ok hG (withoutD w gs) { p with skew := 0 } e hto h1o hts
    rw [hwh e hm] at c1
    ((conv => whnf); repeat ((first | refine SCall.app (Pure.go c1 rfl) ?_ | refine SEx.of (map_get' (by omega) he) ?_ | refine yf rfl ?_ | refine yt rfl ?_ | refine yo rfl ?_ | refine yc rfl ?_ | refine ys rfl ?_ | refine ye rfl ?_ | refine yn rfl ?_ | refine zw ?_ | refine zdt ?_ | refine zdf ?_ | refine znt ?_ | refine znf ?_ | refine zcd ?_ | refine zci ?_ | refine zc3 ?_) <;> (conv => whnf)))
    refine hR (l.length - (i + 1)) _ _ (by omega) ⟨_, _, ?_, i + 1, by omega, rfl, rfl, rfl⟩
    exact tL [0, 1]
  · ((conv => whnf); repeat ((first | refine yf rfl ?_ | refine yt rfl ?_ | refine yo rfl ?_ | refine yc rfl ?_ | refine ys rfl ?_ | refine ye rfl ?_ | refine yn rfl ?_ | refine zw ?_ | refine zdt ?_ | refine zdf ?_ | refine znt ?_ | refine znf ?_ | refine zcd ?_ | refine zci ?_ | refine zc3 ?_) <;> (conv => whnf)))
end
end Go.Eng
