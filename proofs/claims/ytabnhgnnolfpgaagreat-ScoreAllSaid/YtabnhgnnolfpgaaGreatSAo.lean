/-
ScoreAll, as the abstract run has it.
-/
import Derived.Test.YtabnhgnnolfpgaaGreatLaw0
import Derived.Test.YtabnhgnnolfpgaaGreatScA
namespace Go.Eng
open Go
theorem CutOf.small {s w : StD} (h : CutOf s w) : Small w := fun n hn => by
  have := h.nodes.sub n hn
  omega
theorem niix (x : Int) : (!decide (x = x)) = false := by simp
section
variable {P : Program} (hG : FnsOk P AF.fns.get)
include hG
set_option maxHeartbeats 8000000 in
set_option maxRecDepth 10000 in
theorem scoreAll_ok (hb : ACall P 10 [] noG (fun r _ => r = .b true)) (hcmp : ∀ (a b : Str) (h : Heap) (K : V → Heap → Prop), K (.i .i64 (cmpB a b)) h → ACall P 111 [.s a, .s b] h K) (s : StD) (p : PodD) (node : Str) (pack : Bool) (hs : s.arg) (hp : p.fit ∧ p.sok) :
    ACall P 9 [stV s, .agg (podR p), .s node, .b pack] noG (fun r _ => r = .b true) := by
  refine fn_sz (hG _ AF.f9 rfl) rfl ?_
  ((conv => whnf); repeat ((first | refine yf rfl ?_ | refine yt rfl ?_ | refine yo rfl ?_ | refine yc rfl ?_ | refine ys rfl ?_ | refine ye rfl ?_ | refine yn rfl ?_ | refine zw ?_ | refine zdt ?_ | refine zdf ?_ | refine znt ?_ | refine znf ?_ | refine zcd ?_ | refine zci ?_ | refine zc3 ?_) <;> (conv => whnf)))
  refine ⟨hb.frame rfl fun v h' hv => ?_⟩
  subst hv
  refine ⟨rfl, ?_⟩
  ((conv => whnf); repeat ((first | refine yf rfl ?_ | refine yt rfl ?_ | refine yo rfl ?_ | refine yc rfl ?_ | refine ys rfl ?_ | refine ye rfl ?_ | refine yn rfl ?_ | refine zw ?_ | refine zdt ?_ | refine zdf ?_ | refine znt ?_ | refine znf ?_ | refine zcd ?_ | refine zci ?_ | refine zc3 ?_) <;> (conv => whnf)))
  refine SCall.mk (Pure.state (hs.cut hG) rfl fun w hw => ?_)
  have hwo := hw.ok hs
  have hpo := hp.1.toOk
  have hsm := hw.small
  have hroom : ∀ q ∈ w.pods, PodRoom q := fun q hq => (hw.pmay q hq).room
  have hwl : (whereD w p).length ≤ 6 := by
    rw [whereD, List.length_map]
    exact Nat.le_trans (List.length_filter_le _ _) hw.nodes.len
  have hwp : (whereD w p).Pairwise lessS := by
    rw [whereD]
    exact List.pairwise_map.2 (hw.nodes.so.filter _)
  have hsc := fun x : Str => score_all hG w p x pack hwo hp.1 hsm hroom
  have hrsc := fun x : Str => rscore_all hG w p x pack hwo hp.1
  have a1 := best_ok hG w p pack hwl (where_ok hG hcmp w p hwo hp.1 hsm hw.nodes.len hw.nodes.so) hsc
  have a2 := rbest_ok hG w p pack hwl (rwhere_ok hG w p hwo hpo hw.nodes.len hw.nodes.so) hrsc
  have hbest : ∀ n ∈ w.nodes, 0 ≤ (bestD w p pack).1 → _ := fun n hn h0 => best_all hwp h0 hn
  generalize bestD w p pack = ba at a1 a2 hbest
  obtain ⟨b, a⟩ := ba
  dsimp only at a1 a2 hbest
  have b1 := hsc node
  have b2 := hrsc node
  generalize scoreD w p node pack = y at b1 b2
  have hlm : (w.nodes.map nodeR).length = w.nodes.length := List.length_map _
  have hn6 := hw.nodes.len
  generalize hok : decide (b ≥ 0) = ok at a1 a2
  ((conv => whnf); repeat ((first | refine SCall.app (Pure.go a1 rfl) ?_ | refine SCall.app (Pure.go a2 rfl) ?_ | refine SCall.app (Pure.go b1 rfl) ?_ | refine SCall.app (Pure.go b2 rfl) ?_ | refine SIf.ff (nsxx _) ?_ | refine SIf.ff (nbxx _) ?_ | refine SIf.ff (niix _) ?_ | refine yf rfl ?_ | refine yt rfl ?_ | refine yo rfl ?_ | refine yc rfl ?_ | refine ys rfl ?_ | refine ye rfl ?_ | refine yn rfl ?_ | refine zw ?_ | refine zdt ?_ | refine zdf ?_ | refine znt ?_ | refine znf ?_ | refine zcd ?_ | refine zci ?_ | refine zc3 ?_) <;> (conv => whnf)))
  refine SLoopZ.by (fun q fr st => ∃ i : Nat, i ≤ w.nodes.length ∧ q = w.nodes.length - i ∧
      fr = [(60, .i .i64 i), (59, .i .i64 (w.nodes.map nodeR).length), (11, .b ok), (10, .s a), (5, .p (.l 1) 0), (4, .p (.l 0) 0), (3, .b pack)] ∧
      st = ⟨noG, ⟨2, [(1, .cs (podR p)), (0, .cs [.sl none 6 (w.nodes.map nodeR), .sl none 16 (w.pods.map podR)])]⟩⟩)
    w.nodes.length ⟨_, _, ?_, 0, Nat.zero_le _, rfl, rfl, rfl⟩ ?_
  · exact tL [0, 1]
  rintro q fr st ⟨i, hi, rfl, rfl, rfl⟩ R hR
  (conv => whnf)
  refine SIf.ds (fun hlt => ?_) (fun hge => ?_)
  · have hi' : i < w.nodes.length := by omega
    have he := List.getElem?_eq_getElem hi'
    have hm := List.getElem_mem hi'
    generalize w.nodes[i] = e at he hm
    have c1 := hsc e.name
    have c2 := hrsc e.name
    have c3 := hsc a
    have c4 := feas_ok hG w p e.name hwo hp.1 hsm
    have hin : feasD w p e.name = true → _ := fun h => score_in (pack := pack) h
    have hno : feasD w p e.name = false → _ := fun h => score_no (pack := pack) h
    have hbe := hbest e hm
    generalize feasD w p e.name = f at c4 hin hno
    generalize scoreD w p e.name pack = x at c1 c2 hin hno hbe
    generalize scoreD w p a pack = z at c3 hbe
    have h410 : ¬ x > 410 := by
      cases f
      · have := hno rfl
        omega
      · have := hin rfl
        omega
    have hxf : decide (x ≥ 0) = f := by
      cases f
      · have := hno rfl
        exact decide_eq_false (by omega)
      · have := hin rfl
        exact decide_eq_true (by omega)
    have hxf' : (!(decide (x ≥ 0) == f && true)) = false := by rw [hxf]; exact nbxx f
    clear hin hno
    cases ok
    · ((conv => whnf); repeat ((first | refine SCall.app (Pure.go c1 rfl) ?_ | refine SCall.app (Pure.go c2 rfl) ?_ | refine SCall.app (Pure.go c3 rfl) ?_ | refine SCall.app (Pure.go c4 rfl) ?_ | refine SIf.ff (niix _) ?_ | refine SIf.ff hxf' ?_ | refine SEx.of (map_get' (by omega) he) ?_ | refine yf rfl ?_ | refine yt rfl ?_ | refine yo rfl ?_ | refine yc rfl ?_ | refine ys rfl ?_ | refine ye rfl ?_ | refine yn rfl ?_ | refine zw ?_ | refine zdt ?_ | refine zdf ?_ | refine znt ?_ | refine znf ?_ | refine zcd ?_ | refine zci ?_ | refine zc3 ?_) <;> (conv => whnf)))
      refine hR (w.nodes.length - (i + 1)) _ _ (by omega) ⟨_, _, ?_, i + 1, by omega, rfl, rfl, rfl⟩
      exact tL [0, 1]
    · obtain ⟨hle, hfirst⟩ := hbe (of_decide_eq_true hok)
      have hgt : ¬ x > z := by omega
      by_cases hxz : x = z
      · by_cases hx0 : x ≥ 0
        · have hls := hfirst hxz hx0
          ((conv => whnf); repeat ((first | refine SCall.app (Pure.go c1 rfl) ?_ | refine SCall.app (Pure.go c2 rfl) ?_ | refine SCall.app (Pure.go c3 rfl) ?_ | refine SCall.app (Pure.go c4 rfl) ?_ | refine SIf.ff (niix _) ?_ | refine SIf.ff hxf' ?_ | refine SIf.ff hls ?_ | refine SEx.of (map_get' (by omega) he) ?_ | refine yf rfl ?_ | refine yt rfl ?_ | refine yo rfl ?_ | refine yc rfl ?_ | refine ys rfl ?_ | refine ye rfl ?_ | refine yn rfl ?_ | refine zw ?_ | refine zdt ?_ | refine zdf ?_ | refine znt ?_ | refine znf ?_ | refine zcd ?_ | refine zci ?_ | refine zc3 ?_) <;> (conv => whnf)))
          refine hR (w.nodes.length - (i + 1)) _ _ (by omega) ⟨_, _, ?_, i + 1, by omega, rfl, rfl, rfl⟩
          exact tL [0, 1]
        · ((conv => whnf); repeat ((first | refine SCall.app (Pure.go c1 rfl) ?_ | refine SCall.app (Pure.go c2 rfl) ?_ | refine SCall.app (Pure.go c3 rfl) ?_ | refine SCall.app (Pure.go c4 rfl) ?_ | refine SIf.ff (niix _) ?_ | refine SIf.ff hxf' ?_ | refine SEx.of (map_get' (by omega) he) ?_ | refine yf rfl ?_ | refine yt rfl ?_ | refine yo rfl ?_ | refine yc rfl ?_ | refine ys rfl ?_ | refine ye rfl ?_ | refine yn rfl ?_ | refine zw ?_ | refine zdt ?_ | refine zdf ?_ | refine znt ?_ | refine znf ?_ | refine zcd ?_ | refine zci ?_ | refine zc3 ?_) <;> (conv => whnf)))
          refine hR (w.nodes.length - (i + 1)) _ _ (by omega) ⟨_, _, ?_, i + 1, by omega, rfl, rfl, rfl⟩
          exact tL [0, 1]
      · ((conv => whnf); repeat ((first | refine SCall.app (Pure.go c1 rfl) ?_ | refine SCall.app (Pure.go c2 rfl) ?_ | refine SCall.app (Pure.go c3 rfl) ?_ | refine SCall.app (Pure.go c4 rfl) ?_ | refine SIf.ff (niix _) ?_ | refine SIf.ff hxf' ?_ | refine SEx.of (map_get' (by omega) he) ?_ | refine yf rfl ?_ | refine yt rfl ?_ | refine yo rfl ?_ | refine yc rfl ?_ | refine ys rfl ?_ | refine ye rfl ?_ | refine yn rfl ?_ | refine zw ?_ | refine zdt ?_ | refine zdf ?_ | refine znt ?_ | refine znf ?_ | refine zcd ?_ | refine zci ?_ | refine zc3 ?_) <;> (conv => whnf)))
        refine hR (w.nodes.length - (i + 1)) _ _ (by omega) ⟨_, _, ?_, i + 1, by omega, rfl, rfl, rfl⟩
        exact tL [0, 1]
  · ((conv => whnf); repeat ((first | refine yf rfl ?_ | refine yt rfl ?_ | refine yo rfl ?_ | refine yc rfl ?_ | refine ys rfl ?_ | refine ye rfl ?_ | refine yn rfl ?_ | refine zw ?_ | refine zdt ?_ | refine zdf ?_ | refine znt ?_ | refine znf ?_ | refine zcd ?_ | refine zci ?_ | refine zc3 ?_) <;> (conv => whnf)))
end
end Go.Eng
