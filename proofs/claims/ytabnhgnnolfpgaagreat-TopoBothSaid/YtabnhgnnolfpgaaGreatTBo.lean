/-
TopoBoth, as the abstract run has it.
-/
import Derived.Test.YtabnhgnnolfpgaaGreatLaw0
import Derived.Test.YtabnhgnnolfpgaaGreatFitW3
namespace Go.Eng
open Go
theorem CutOf.small {s w : StD} (h : CutOf s w) : Small w := fun n hn => by
  have := h.nodes.sub n hn
  omega
def twoD (p : PodD) (nm node : Str) : PodD := ⟨nm, p.uid, p.prio, p.req, p.ports, p.labels, p.sel, p.tols, p.topo, p.anti, 0, p.even, node, p.term⟩
theorem sameD_comm (s : StD) (key a b : Str) : sameD s key a b = sameD s key b a := by
  unfold sameD
  have h : ((domainD s key a).1 == (domainD s key b).1) = ((domainD s key b).1 == (domainD s key a).1) := by
    by_cases e : (domainD s key a).1 = (domainD s key b).1
    · rw [e]
    · rw [beq_false_of_ne e, beq_false_of_ne (Ne.symm e)]
  rw [h]
  cases (domainD s key a).2 <;> cases (domainD s key b).2 <;> rfl
theorem apart_both (ns : List NodeD) (p q : PodD) {x y : Str} (hx : x ≠ []) (hy : y ≠ []) :
    (apartD ⟨ns, []⟩ (twoD p [112, 112] []) x && apartD ⟨ns, [twoD p [112, 112] x]⟩ (twoD q [113, 113] []) y) = (apartD ⟨ns, []⟩ (twoD q [113, 113] []) y && apartD ⟨ns, [twoD q [113, 113] y]⟩ (twoD p [112, 112] []) x) := by
  have hd : ∀ (l l' : List PodD) (k n : Str), domainD ⟨ns, l⟩ k n = domainD ⟨ns, l'⟩ k n := fun _ _ _ _ => rfl
  have b1 : badD ⟨ns, [twoD p [112, 112] x]⟩ (twoD q [113, 113] []) y (twoD p [112, 112] x) =
      ((!q.anti.isEmpty && ((q.anti.all fun t => holdsD t p.labels) && sameD ⟨ns, []⟩ q.topo x y)) || (!p.anti.isEmpty && ((p.anti.all fun t => holdsD t q.labels) && sameD ⟨ns, []⟩ p.topo x y))) := by
    have h1 : (x == []) = false := beq_false_of_ne hx
    simp only [badD, keepsD, twoD, h1]
    rfl
  have b2 : badD ⟨ns, [twoD q [113, 113] y]⟩ (twoD p [112, 112] []) x (twoD q [113, 113] y) =
      ((!p.anti.isEmpty && ((p.anti.all fun t => holdsD t q.labels) && sameD ⟨ns, []⟩ p.topo y x)) || (!q.anti.isEmpty && ((q.anti.all fun t => holdsD t p.labels) && sameD ⟨ns, []⟩ q.topo y x))) := by
    have h1 : (y == []) = false := beq_false_of_ne hy
    simp only [badD, keepsD, twoD, h1]
    rfl
  rw [sameD_comm _ p.topo y x, sameD_comm _ q.topo y x] at b2
  unfold apartD
  rw [List.any_nil, List.any_nil, List.any_cons, List.any_cons, List.any_nil, List.any_nil, b1, b2, hd [twoD p [112, 112] x] [], hd [twoD q [113, 113] y] []]
  generalize (!q.anti.isEmpty && ((q.anti.all fun t => holdsD t p.labels) && sameD ⟨ns, []⟩ q.topo x y)) = kq
  generalize (!p.anti.isEmpty && ((p.anti.all fun t => holdsD t q.labels) && sameD ⟨ns, []⟩ p.topo x y)) = kp
  generalize (!(!(twoD p [112, 112] []).anti.isEmpty && !(domainD ⟨ns, []⟩ (twoD p [112, 112] []).topo x).2)) = dp
  generalize (!(!(twoD q [113, 113] []).anti.isEmpty && !(domainD ⟨ns, []⟩ (twoD q [113, 113] []).topo y).2)) = dq
  cases kq <;> cases kp <;> cases dp <;> cases dq <;> rfl
section
variable {P : Program} (hG : FnsOk P AF.fns.get)
include hG
set_option maxHeartbeats 8000000 in
set_option maxRecDepth 20000 in
theorem with_none (ns : List NodeD) (p : PodD) (h6 : ns.length ≤ 6) (hsm : Small ⟨ns, []⟩) (hp : PodRoom p) : Pure P 11 [stV ⟨ns, []⟩, .agg (podR p)] (· = stV ⟨ns, [p]⟩) := by
  have c0 := copyPod_ok hG p hp
  have hn := nodes_ok hG ⟨ns, []⟩ h6 hsm
  refine pure_fn (hG _ AF.f11 rfl) rfl ?_
  ((conv => whnf); repeat ((first | refine SCall.app (Pure.go c0 rfl) ?_ | refine SCall.app (Pure.go hn rfl) ?_ | refine SCall.app (fn_sf (hG _ _ rfl) rfl) ?_ | refine SLoopB.un rfl ?_ | refine SWrap.w64 (by show _ ≤ (1 : Int); decide) (by show (1 : Int) ≤ _; decide) ?_ | refine yf rfl ?_ | refine yt rfl ?_ | refine yo rfl ?_ | refine yc rfl ?_ | refine ys rfl ?_ | refine ye rfl ?_ | refine yn rfl ?_ | refine zw ?_ | refine zdt ?_ | refine zdf ?_ | refine znt ?_ | refine znf ?_ | refine zcd ?_ | refine zci ?_ | refine zc3 ?_ | refine SLoopZ.un rfl ?_) <;> (conv => whnf)))
  exact pure_aggm rfl rfl (Nat.le_refl _) rfl
set_option maxHeartbeats 8000000 in
set_option maxRecDepth 20000 in
theorem topoBoth_ok (hb : ACall P 10 [] noG (fun r _ => r = .b true)) (s : StD) (p q : PodD) (a b : Str) (hs : s.arg) (hp : p.fit ∧ p.sok) (hq : q.fit ∧ q.sok) (hpr : PodRoom p) (hqr : PodRoom q) :
    ACall P 5 [stV s, .agg (podR p), .agg (podR q), .s a, .s b] noG (fun r _ => r = .b true) := by
  refine fn_sz (hG _ AF.f5 rfl) rfl ?_
  ((conv => whnf); repeat ((first | refine yf rfl ?_ | refine yt rfl ?_ | refine yo rfl ?_ | refine yc rfl ?_ | refine ys rfl ?_ | refine ye rfl ?_ | refine yn rfl ?_ | refine zw ?_ | refine zdt ?_ | refine zdf ?_ | refine znt ?_ | refine znf ?_ | refine zcd ?_ | refine zci ?_ | refine zc3 ?_) <;> (conv => whnf)))
  refine ⟨hb.frame rfl fun v h' hv => ?_⟩
  subst hv
  refine ⟨rfl, ?_⟩
  ((conv => whnf); repeat ((first | refine yf rfl ?_ | refine yt rfl ?_ | refine yo rfl ?_ | refine yc rfl ?_ | refine ys rfl ?_ | refine ye rfl ?_ | refine yn rfl ?_ | refine zw ?_ | refine zdt ?_ | refine zdf ?_ | refine znt ?_ | refine znf ?_ | refine zcd ?_ | refine zci ?_ | refine zc3 ?_) <;> (conv => whnf)))
  refine SCall.mk (Pure.state (hs.cut hG) rfl fun w hw => ?_)
  have hwo := hw.ok hs
  have hpo := hp.1.toOk
  have hqo := hq.1.toOk
  have hn6 := hw.nodes.len
  have hsm := hw.small
  have hlm : (w.nodes.map nodeR).length = w.nodes.length := List.length_map _
  by_cases h0 : w.nodes.length = 0
  · have hnil : w.nodes = [] := List.eq_nil_of_length_eq_zero h0
    have c1 := count_ok hG w a b [] hwo ⟨Nat.zero_le _, fun _ h => by cases h⟩
    have hc0 : countD w a b [] = 0 := by
      unfold countD
      rw [List.filter_eq_nil_iff.2, List.length_nil]
      intro x _
      simp [inDom, domainD, hnil]
    rw [hc0] at c1
    ((conv => whnf); repeat ((first | refine SCall.app (Pure.call1 c1 (by ((repeat (first | exact trivial | refine ⟨by first | exact ce1_free rfl | exact .inl .nil | exact .inl .tok | exact .inl (.rows (by ((repeat (first | exact .nil | refine .cons (by ((repeat (first | exact .nil | refine .cons (by first | exact .refl _ | exact .nil _) ?_)); first | done | fail)) ?_)); first | done | fail))) | exact .inr (.inl ⟨_, _, rfl, rfl, (by ((repeat (first | exact trivial | refine ⟨by first | exact ce_flat rfl | exact .nil | exact .tok | exact .ren rfl (Nat.le_of_ble_eq_true rfl) | exact .rows (by ((repeat (first | exact .nil | refine .cons (by ((repeat (first | exact .nil | refine .cons (by first | exact .refl _ | exact .nil _) ?_)); first | done | fail)) ?_)); first | done | fail)), ?_⟩)); first | done | fail))⟩), ?_⟩)); first | done | fail)) rfl) ?_ | refine yf rfl ?_ | refine yt rfl ?_ | refine yo rfl ?_ | refine yc rfl ?_ | refine ys rfl ?_ | refine ye rfl ?_ | refine yn rfl ?_ | refine zw ?_ | refine zdt ?_ | refine zdf ?_ | refine znt ?_ | refine znf ?_ | refine zcd ?_ | refine zci ?_ | refine zc3 ?_) <;> (conv => whnf)))
    rfl
  · have hf1 : ∀ nm x, (twoD p nm x).fit := fun _ _ => ⟨⟨hpo.ports, hpo.labels, hpo.tols, hpo.sel, hpo.anti, hpo.even⟩, hp.1.req⟩
    have hf2 : ∀ nm x, (twoD q nm x).fit := fun _ _ => ⟨⟨hqo.ports, hqo.labels, hqo.tols, hqo.sel, hqo.anti, hqo.even⟩, hq.1.req⟩
    have hr1 : ∀ nm x, PodRoom (twoD p nm x) := fun _ _ => ⟨hpr.ports, hpr.labels, hpr.tols, hpr.sel, hpr.anti, hpr.even⟩
    have hr2 : ∀ nm x, PodRoom (twoD q nm x) := fun _ _ => ⟨hqr.ports, hqr.labels, hqr.tols, hqr.sel, hqr.anti, hqr.even⟩
    have hi0 : 0 < w.nodes.length := by omega
    have hi1 : w.nodes.length - 1 < w.nodes.length := by omega
    have he := List.getElem?_eq_getElem hi0
    have hf := List.getElem?_eq_getElem hi1
    have hem := (hw.nodes.sub _ (List.getElem_mem hi0)).2.2.2.2
    have hfm := (hw.nodes.sub _ (List.getElem_mem hi1)).2.2.2.2
    generalize w.nodes[0] = e at he hem
    generalize w.nodes[w.nodes.length - 1] = f at hf hfm
    have hx : e.name ≠ [] := fun h => by rw [h] at hem; cases hem
    have hy : f.name ≠ [] := fun h => by rw [h] at hfm; cases hfm
    have hu : StD.ok ⟨w.nodes, []⟩ := ⟨hwo.nodes, Nat.zero_le _, hwo.node, (fun _ h => by cases h), Nat.zero_le _⟩
    have hu1 : ∀ z : PodD, z.fit → StD.ok ⟨w.nodes, [z]⟩ := fun z hz => ⟨hwo.nodes, (by show 1 ≤ 9223372036854775807; decide), hwo.node, fun x h => by rw [List.mem_singleton.1 h]; exact hz, (by show 1 * 248 ≤ 140737488355328; decide)⟩
    have c1 := apart_ok hG ⟨w.nodes, []⟩ (twoD p [112, 112] []) e.name hu (hf1 _ _).toOk
    have c2 := apart_ok hG ⟨w.nodes, []⟩ (twoD q [113, 113] []) f.name hu (hf2 _ _).toOk
    have d1 := with_none hG w.nodes (twoD p [112, 112] e.name) hn6 hsm (hr1 _ _)
    have d2 := with_none hG w.nodes (twoD q [113, 113] f.name) hn6 hsm (hr2 _ _)
    have c3 := apart_ok hG ⟨w.nodes, [twoD p [112, 112] e.name]⟩ (twoD q [113, 113] []) f.name (hu1 _ (hf1 _ _)) (hf2 _ _).toOk
    have c4 := apart_ok hG ⟨w.nodes, [twoD q [113, 113] f.name]⟩ (twoD p [112, 112] []) e.name (hu1 _ (hf2 _ _)) (hf1 _ _).toOk
    have hab := apart_both w.nodes p q hx hy
    generalize apartD ⟨w.nodes, []⟩ (twoD p [112, 112] []) e.name = b1 at c1 hab
    generalize apartD ⟨w.nodes, []⟩ (twoD q [113, 113] []) f.name = b2 at c2 hab
    generalize apartD ⟨w.nodes, [twoD p [112, 112] e.name]⟩ (twoD q [113, 113] []) f.name = b3 at c3 hab
    generalize apartD ⟨w.nodes, [twoD q [113, 113] f.name]⟩ (twoD p [112, 112] []) e.name = b4 at c4 hab
    cases b1 <;> cases b2 <;> cases b3 <;> cases b4
    all_goals first
      | exact absurd hab (by decide)
      | (((conv => whnf); repeat ((first | refine SCall.app (Pure.call1 c1 (by ((repeat (first | exact trivial | refine ⟨by first | exact ce1_free rfl | exact .inl .nil | exact .inl .tok | exact .inl (.rows (by ((repeat (first | exact .nil | refine .cons (by ((repeat (first | exact .nil | refine .cons (by first | exact .refl _ | exact .nil _) ?_)); first | done | fail)) ?_)); first | done | fail))) | exact .inr (.inl ⟨_, _, rfl, rfl, (by ((repeat (first | exact trivial | refine ⟨by first | exact ce_flat rfl | exact .nil | exact .tok | exact .ren rfl (Nat.le_of_ble_eq_true rfl) | exact .rows (by ((repeat (first | exact .nil | refine .cons (by ((repeat (first | exact .nil | refine .cons (by first | exact .refl _ | exact .nil _) ?_)); first | done | fail)) ?_)); first | done | fail)), ?_⟩)); first | done | fail))⟩), ?_⟩)); first | done | fail)) rfl) ?_ | refine SCall.app (Pure.call1 c2 (by ((repeat (first | exact trivial | refine ⟨by first | exact ce1_free rfl | exact .inl .nil | exact .inl .tok | exact .inl (.rows (by ((repeat (first | exact .nil | refine .cons (by ((repeat (first | exact .nil | refine .cons (by first | exact .refl _ | exact .nil _) ?_)); first | done | fail)) ?_)); first | done | fail))) | exact .inr (.inl ⟨_, _, rfl, rfl, (by ((repeat (first | exact trivial | refine ⟨by first | exact ce_flat rfl | exact .nil | exact .tok | exact .ren rfl (Nat.le_of_ble_eq_true rfl) | exact .rows (by ((repeat (first | exact .nil | refine .cons (by ((repeat (first | exact .nil | refine .cons (by first | exact .refl _ | exact .nil _) ?_)); first | done | fail)) ?_)); first | done | fail)), ?_⟩)); first | done | fail))⟩), ?_⟩)); first | done | fail)) rfl) ?_ | refine SCall.app (Pure.call1 d1 (by ((repeat (first | exact trivial | refine ⟨by first | exact ce1_free rfl | exact .inl .nil | exact .inl .tok | exact .inl (.rows (by ((repeat (first | exact .nil | refine .cons (by ((repeat (first | exact .nil | refine .cons (by first | exact .refl _ | exact .nil _) ?_)); first | done | fail)) ?_)); first | done | fail))) | exact .inr (.inl ⟨_, _, rfl, rfl, (by ((repeat (first | exact trivial | refine ⟨by first | exact ce_flat rfl | exact .nil | exact .tok | exact .ren rfl (Nat.le_of_ble_eq_true rfl) | exact .rows (by ((repeat (first | exact .nil | refine .cons (by ((repeat (first | exact .nil | refine .cons (by first | exact .refl _ | exact .nil _) ?_)); first | done | fail)) ?_)); first | done | fail)), ?_⟩)); first | done | fail))⟩), ?_⟩)); first | done | fail)) rfl) ?_ | refine SCall.app (Pure.call1 d2 (by ((repeat (first | exact trivial | refine ⟨by first | exact ce1_free rfl | exact .inl .nil | exact .inl .tok | exact .inl (.rows (by ((repeat (first | exact .nil | refine .cons (by ((repeat (first | exact .nil | refine .cons (by first | exact .refl _ | exact .nil _) ?_)); first | done | fail)) ?_)); first | done | fail))) | exact .inr (.inl ⟨_, _, rfl, rfl, (by ((repeat (first | exact trivial | refine ⟨by first | exact ce_flat rfl | exact .nil | exact .tok | exact .ren rfl (Nat.le_of_ble_eq_true rfl) | exact .rows (by ((repeat (first | exact .nil | refine .cons (by ((repeat (first | exact .nil | refine .cons (by first | exact .refl _ | exact .nil _) ?_)); first | done | fail)) ?_)); first | done | fail)), ?_⟩)); first | done | fail))⟩), ?_⟩)); first | done | fail)) rfl) ?_ | refine SCall.app (Pure.go c3 rfl) ?_ | refine SCall.app (Pure.go c4 rfl) ?_ | refine SEx.of (map_get' (by omega) he) ?_ | refine SEx.of (map_get' (by omega) hf) ?_ | refine yf rfl ?_ | refine yt rfl ?_ | refine yo rfl ?_ | refine yc rfl ?_ | refine ys rfl ?_ | refine ye rfl ?_ | refine yn rfl ?_ | refine zw ?_ | refine zdt ?_ | refine zdf ?_ | refine znt ?_ | refine znf ?_ | refine zcd ?_ | refine zci ?_ | refine zc3 ?_) <;> (conv => whnf)))
         rfl)
end
end Go.Eng
