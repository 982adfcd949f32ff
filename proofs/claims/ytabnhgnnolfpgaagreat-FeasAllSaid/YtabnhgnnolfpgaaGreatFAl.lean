/-
FeasAll, as the abstract run has it.
-/
import Derived.Test.YtabnhgnnolfpgaaGreatLaw0
import Derived.Test.YtabnhgnnolfpgaaGreatWr1
import Derived.Test.YtabnhgnnolfpgaaGreatWr2
set_option linter.unusedVariables false
set_option linter.unusedSimpArgs false
namespace Go.Eng
open Go
theorem CutOf.small {s w : StD} (h : CutOf s w) : Small w := fun n hn => by
  have := h.nodes.sub n hn
  omega
theorem where_mem {s : StD} {p : PodD} {x : Str} (h : x ∈ whereD s p) : feasD s p x = true := by
  obtain ⟨n, hn, rfl⟩ := List.mem_map.1 h
  exact (List.mem_filter.1 hn).2
section
variable {P : Program} (hG : FnsOk P AF.fns.get)
include hG
set_option maxHeartbeats 4000000 in
set_option maxRecDepth 10000 in
theorem feasAll_ok (hb : ACall P 10 [] noG (fun r _ => r = .b true)) (hcmp : ∀ (a b : Str) (h : Heap) (K : V → Heap → Prop), K (.i .i64 (cmpB a b)) h → ACall P 111 [.s a, .s b] h K) (s : StD) (p : PodD) (node : Str) (hs : s.arg) (hp : p.fit ∧ p.sok) :
    ACall P 7 [stV s, .agg (podR p), .s node] noG (fun r _ => r = .b true) := by
  refine fn_sz (hG _ AF.f7 rfl) rfl ?_
  ((conv => whnf); repeat ((first | refine yf rfl ?_ | refine yt rfl ?_ | refine yo rfl ?_ | refine yc rfl ?_ | refine ys rfl ?_ | refine ye rfl ?_ | refine yn rfl ?_ | refine zw ?_ | refine zdt ?_ | refine zdf ?_ | refine znt ?_ | refine znf ?_ | refine zcd ?_ | refine zci ?_ | refine zc3 ?_) <;> (conv => whnf)))
  refine ⟨hb.frame rfl fun v h' hv => ?_⟩
  subst hv
  refine ⟨rfl, ?_⟩
  ((conv => whnf); repeat ((first | refine yf rfl ?_ | refine yt rfl ?_ | refine yo rfl ?_ | refine yc rfl ?_ | refine ys rfl ?_ | refine ye rfl ?_ | refine yn rfl ?_ | refine zw ?_ | refine zdt ?_ | refine zdf ?_ | refine znt ?_ | refine znf ?_ | refine zcd ?_ | refine zci ?_ | refine zc3 ?_) <;> (conv => whnf)))
  refine SCall.mk (Pure.state (hs.cut hG) rfl fun w hw => ?_)
  have hwo := hw.ok hs
  have hpo := hp.1.toOk
  have hsm := hw.small
  have a1 := where_ok hG hcmp w p hwo hp.1 hsm hw.nodes.len hw.nodes.so
  have a2 := rwhere_ok hG w p hwo hpo hw.nodes.len hw.nodes.so
  have b1 := feas_ok hG w p node hwo hp.1 hsm
  have b2 := rfeas_ok hG w p node hwo hpo
  have c1 := whole_all hG w hwo hsm (fun q hq => (hw.pmay q hq).room)
  have c2 := rwhole_ok hG w hwo
  have hwh : ∀ x ∈ whereD w p, feasD w p x = true := fun x hx => where_mem hx
  have hwl : (whereD w p).length ≤ 6 := by
    rw [whereD, List.length_map]
    exact Nat.le_trans (List.length_filter_le _ _) hw.nodes.len
  generalize whereD w p = l at a1 a2 hwh hwl
  have hlm : (l.map strR).length = l.length := List.length_map _
  generalize feasD w p node = y at b1 b2
  generalize wholeD w = z at c1 c2
  ((conv => whnf); repeat ((first | refine SCall.app (Pure.go a1 rfl) ?_ | refine SCall.app (Pure.go a2 rfl) ?_ | refine SCall.app (Pure.go b1 rfl) ?_ | refine SCall.app (Pure.go b2 rfl) ?_ | refine SCall.app (Pure.go c1 rfl) ?_ | refine SCall.app (Pure.go c2 rfl) ?_ | refine SIf.ff (nbxx _) ?_ | refine SIf.ff (nixx _) ?_ | refine yf rfl ?_ | refine yt rfl ?_ | refine yo rfl ?_ | refine yc rfl ?_ | refine ys rfl ?_ | refine ye rfl ?_ | refine yn rfl ?_ | refine zw ?_ | refine zdt ?_ | refine zdf ?_ | refine znt ?_ | refine znf ?_ | refine zcd ?_ | refine zci ?_ | refine zc3 ?_) <;> (conv => whnf)))
  refine SLoopZ.by (fun q fr st => ∃ i : Nat, i ≤ l.length ∧ q = l.length - i ∧
      fr = [(47, .i .i64 i), (46, .i .i64 (l.map strR).length), (9, .sl none 1 (l.map strR)), (8, .sl none 1 (l.map strR)), (4, .p (.l 1) 0), (3, .p (.l 0) 0)] ∧
      st = ⟨noG, ⟨2, [(1, .cs (podR p)), (0, .cs [.sl none 6 (w.nodes.map nodeR), .sl none 16 (w.pods.map podR)])]⟩⟩)
    l.length ⟨_, _, ?_, 0, Nat.zero_le _, rfl, rfl, rfl⟩ ?_
  · exact tL [0, 1]
  rintro q fr st ⟨i, hi, rfl, rfl, rfl⟩ R hR
  (conv => whnf)
  refine SIf.ds (fun hlt => ?_) (fun hge => ?_)
  · have hi' : i < l.length := by omega
    have he := List.getElem?_eq_getElem hi'
    have hm := List.getElem_mem hi'
    generalize l[i] = e at he hm
    have d1 := feas_ok hG w p e hwo hp.1 hsm
    rw [hwh e hm] at d1
    ((conv => whnf); repeat ((first | refine SCall.app (Pure.go d1 rfl) ?_ | refine SIf.ff (nsxx _) ?_ | refine SEx.of (map_get' (by omega) he) ?_ | refine yf rfl ?_ | refine yt rfl ?_ | refine yo rfl ?_ | refine yc rfl ?_ | refine ys rfl ?_ | refine ye rfl ?_ | refine yn rfl ?_ | refine zw ?_ | refine zdt ?_ | refine zdf ?_ | refine znt ?_ | refine znf ?_ | refine zcd ?_ | refine zci ?_ | refine zc3 ?_) <;> (conv => whnf)))
    refine hR (l.length - (i + 1)) _ _ (by omega) ⟨_, _, ?_, i + 1, by omega, rfl, rfl, rfl⟩
    exact tL [0, 1]
  · ((conv => whnf); repeat ((first | refine yf rfl ?_ | refine yt rfl ?_ | refine yo rfl ?_ | refine yc rfl ?_ | refine ys rfl ?_ | refine ye rfl ?_ | refine yn rfl ?_ | refine zw ?_ | refine zdt ?_ | refine zdf ?_ | refine znt ?_ | refine znf ?_ | refine zcd ?_ | refine zci ?_ | refine zc3 ?_) <;> (conv => whnf)))
end
end Go.Eng
