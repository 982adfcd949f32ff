/-
How good: shares, a score where all amounts are alike.
-/
import Derived.Test.YtfobkjdmohaakaaGreatFitG
import Derived.Test.YtfobkjdmohaakaaGreatFitB
import Derived.Test.YtfobkjdmohaakaaGreatArgX
import Derived.Test.YtfobkjdmohaakaaGreatEngC
set_option linter.unusedVariables false
set_option linter.unusedSimpArgs false
namespace Go.Eng
open Go
section
variable {P : Program} (hG : FnsOk P AF.fns.get)
include hG
set_option maxHeartbeats 1000000 in
theorem share_ok (a c : Int) (ha : 0 ≤ a) (hac : a ≤ c) (hc : 1 ≤ c) (hc2 : c ≤ 1000000000) : Pure P 75 [.i .i64 a, .i .i64 c] (· = .i .i64 ((100 * a).tdiv c)) := by
  have hq : 0 ≤ (100 * a).tdiv c ∧ (100 * a).tdiv c ≤ 100 := by
    rw [Int.tdiv_eq_ediv_of_nonneg (by omega)]
    refine ⟨Int.ediv_nonneg (by omega) (by omega), Int.ediv_le_of_le_mul (by omega) (by omega)⟩
  have m1 : maxI a 0 = a := by unfold maxI; split <;> omega
  have m2 : minI a c = a := by unfold minI; split <;> omega
  refine pure_fn (hG _ AF.f75 rfl) rfl ?_
  ((conv => whnf); repeat ((first | refine SOpt.of (mx2 (z := a) m1) ?_ | refine SOpt.of (mn2 (z := a) m2) ?_ | refine SChk.mk (by simp; omega) ?_ | refine SWrap.w64 (by exact Int.le_trans (by decide) hq.1) (by exact Int.le_trans hq.2 (by decide)) ?_ | refine SIf.ff rfl ?_ | refine SIf.tt rfl ?_ | refine SOpt.of rfl ?_ | refine SChk.mk rfl ?_ | refine SSame.mk rfl ?_ | refine SEx.of rfl ?_ | refine SOpt.no rfl ?_ | refine SWrap.w64 (by omega) (by omega) ?_ | refine SIf.dt (by omega) ?_ | refine SIf.df (by omega) ?_ | refine SIf.nt (by omega) ?_ | refine SIf.nf (by omega) ?_ | refine SChk.d (by omega) ?_ | refine SChk.ix (by omega) (by omega) ?_ | refine SChk.d3 (by omega) (by omega) (by omega) ?_ | refine SLoopZ.un rfl ?_) <;> (conv => whnf)))
  exact pure_free rfl rfl
/-- A score where all shares are alike. -/
def evenScore (pack : Bool) (x k : Int) : Int := (if pack then 3 * x else 300 - 3 * x) + 110 - k
set_option maxHeartbeats 4000000 in
set_option maxRecDepth 10000 in
theorem score_ok (s : StD) (p : PodD) (name : Str) (pack : Bool) (n : NodeD) (u t : ResD) (c m x : Int) (l : List PodD) (hs : s.ok) (hp : p.fit) (hsm : Small s) (hf : feasD s p name = true)
    (hn : s.nodes.find? (fun n => n.name == name) = some n) (hu : usedD s name = some u) (huo : u.ok) (ht : addD u p.req = some t) (hc : n.cap = ⟨c, c, c⟩) (htt : t = ⟨m, m, m⟩)
    (hm : 0 ≤ m ∧ m ≤ c ∧ 1 ≤ c ∧ c ≤ 1000000000) (hx : (100 * m).tdiv c = x) (hx2 : 0 ≤ x ∧ x ≤ 100) (hl : l.length ≤ 10) (hon : Pure P 73 [stV s, .s name] (· = .sl none 16 (l.map podR))) :
    Pure P 26 [stV s, .agg (podR p), .s name, .b pack] (· = .i .i64 (evenScore pack x l.length)) := by
  have a1 := feas_ok hG s p name hs hp hsm
  have a2 := getnode_ok hG s name hs.nodes hsm
  have a3 := used_ok hG s name hs.pods (by have := hs.some; omega) (fun q hq => (hs.pod q hq).req)
  have a4 := add_ok hG u p.req huo hp.req
  have a5 := share_ok hG m c hm.1 hm.2.1 hm.2.2.1 hm.2.2.2
  rw [hf] at a1
  rw [hn] at a2
  rw [hu] at a3
  rw [ht, htt] at a4
  rw [hx] at a5
  have hlm : (l.map podR).length = l.length := List.length_map _
  have hc1 : n.cap.a = c ∧ n.cap.b = c ∧ n.cap.c = c := by rw [hc]; exact ⟨rfl, rfl, rfl⟩
  have hpos : ¬ c ≤ 0 := by omega
  obtain ⟨nm, ⟨ca, cb, cc⟩, nl, nt⟩ := n
  obtain ⟨rfl, rfl, rfl⟩ : ca = c ∧ cb = c ∧ cc = c := hc1
  refine pure_fn (hG _ AF.f26 rfl) rfl ?_
  have n1 : minI 100 x = x := by unfold minI; split <;> omega
  have n2 : minI x x = x := by unfold minI; split <;> omega
  have n3 : maxI 0 x = x := by unfold maxI; split <;> omega
  have n4 : maxI x x = x := by unfold maxI; split <;> omega
  have n5 : maxI (x - x) 0 = 0 := by unfold maxI; split <;> omega
  have n6 : maxI (10 - (((l.map podR).length : Nat) : Int)) 0 = 10 - l.length := by unfold maxI; split <;> omega
  cases pack
  all_goals ((conv => whnf); repeat ((first | refine SIf.df hpos ?_ | refine SCall.app (Pure.go a1 rfl) ?_ | refine SCall.app (Pure.go a2 rfl) ?_ | refine SCall.app (Pure.go a3 rfl) ?_ | refine SCall.app (Pure.go a4 rfl) ?_ | refine SCall.app (Pure.go a5 rfl) ?_ | refine SCall.app (Pure.go hon rfl) ?_ | refine SOpt.of (mn2 (z := x) n1) ?_ | refine SOpt.of (mn2 (z := x) n2) ?_ | refine SOpt.of (mx2 (z := x) n3) ?_ | refine SOpt.of (mx2 (z := x) n4) ?_ | refine SOpt.of (mx2 (z := 0) n5) ?_ | refine SOpt.of (mx2 (z := 10 - l.length) n6) ?_ | refine SIf.ff rfl ?_ | refine SIf.tt rfl ?_ | refine SOpt.of rfl ?_ | refine SChk.mk rfl ?_ | refine SSame.mk rfl ?_ | refine SEx.of rfl ?_ | refine SOpt.no rfl ?_ | refine SWrap.w64 (by omega) (by omega) ?_ | refine SIf.dt (by omega) ?_ | refine SIf.df (by omega) ?_ | refine SIf.nt (by omega) ?_ | refine SIf.nf (by omega) ?_ | refine SChk.d (by omega) ?_ | refine SChk.ix (by omega) (by omega) ?_ | refine SChk.d3 (by omega) (by omega) (by omega) ?_ | refine SLoopZ.un rfl ?_) <;> (conv => whnf)))
  all_goals (refine pure_free rfl ?_; refine congrArg (V.i .i64) ?_; simp [evenScore]; omega)
end
end Go.Eng
/-
Where a pod may go of two nodes, who is on a node, which node is the best one of two.
-/
namespace Go.Eng
open Go
section
variable {P : Program} (hG : FnsOk P AF.fns.get)
include hG
theorem on_none (ns : List NodeD) (node : Str) : Pure P 73 [stV ⟨ns, []⟩, .s node] (· = .sl none 16 (List.map podR [])) := by
  refine pure_fn (hG _ AF.f73 rfl) rfl ?_
  ((conv => whnf); repeat ((first | refine SIf.ff rfl ?_ | refine SIf.tt rfl ?_ | refine SOpt.of rfl ?_ | refine SChk.mk rfl ?_ | refine SSame.mk rfl ?_ | refine SEx.of rfl ?_ | refine SOpt.no rfl ?_ | refine SWrap.w64 (by omega) (by omega) ?_ | refine SIf.dt (by omega) ?_ | refine SIf.df (by omega) ?_ | refine SIf.nt (by omega) ?_ | refine SIf.nf (by omega) ?_ | refine SChk.d (by omega) ?_ | refine SChk.ix (by omega) (by omega) ?_ | refine SChk.d3 (by omega) (by omega) (by omega) ?_ | refine SLoopZ.un rfl ?_) <;> (conv => whnf)))
  exact pure_nil rfl
set_option maxHeartbeats 4000000 in
set_option maxRecDepth 10000 in
theorem on_one (ns : List NodeD) (q : PodD) (node : Str) (hr : PodRoom q) (hn : q.node = node) (hne : (node == []) = false) : Pure P 73 [stV ⟨ns, [q]⟩, .s node] (· = .sl none 16 (List.map podR [q])) := by
  have hc := copyPod_ok hG q hr
  have h1 : (q.node == node) = true := by simp [hn]
  have h2 : (!(node == [])) = true := by rw [hne]; rfl
  refine pure_fn (hG _ AF.f73 rfl) rfl ?_
  ((conv => whnf); repeat ((first | refine SIf.tt h1 ?_ | refine SIf.tt h2 ?_ | refine SCall.app (Pure.go hc rfl) ?_ | refine SIf.ff rfl ?_ | refine SIf.tt rfl ?_ | refine SOpt.of rfl ?_ | refine SChk.mk rfl ?_ | refine SSame.mk rfl ?_ | refine SEx.of rfl ?_ | refine SOpt.no rfl ?_ | refine SWrap.w64 (by omega) (by omega) ?_ | refine SIf.dt (by omega) ?_ | refine SIf.df (by omega) ?_ | refine SIf.nt (by omega) ?_ | refine SIf.nf (by omega) ?_ | refine SChk.d (by omega) ?_ | refine SChk.ix (by omega) (by omega) ?_ | refine SChk.d3 (by omega) (by omega) (by omega) ?_ | refine SLoopZ.un rfl ?_) <;> (conv => whnf)))
  exact pure_ms rfl rfl (Nat.le_refl _) rfl
theorem on_not (ns : List NodeD) (q : PodD) (node : Str) (hn : (q.node == node) = false) : Pure P 73 [stV ⟨ns, [q]⟩, .s node] (· = .sl none 16 (List.map podR [])) := by
  refine pure_fn (hG _ AF.f73 rfl) rfl ?_
  ((conv => whnf); repeat ((first | refine SIf.ff hn ?_ | refine SIf.ff rfl ?_ | refine SIf.tt rfl ?_ | refine SOpt.of rfl ?_ | refine SChk.mk rfl ?_ | refine SSame.mk rfl ?_ | refine SEx.of rfl ?_ | refine SOpt.no rfl ?_ | refine SWrap.w64 (by omega) (by omega) ?_ | refine SIf.dt (by omega) ?_ | refine SIf.df (by omega) ?_ | refine SIf.nt (by omega) ?_ | refine SIf.nf (by omega) ?_ | refine SChk.d (by omega) ?_ | refine SChk.ix (by omega) (by omega) ?_ | refine SChk.d3 (by omega) (by omega) (by omega) ?_ | refine SLoopZ.un rfl ?_) <;> (conv => whnf)))
  exact pure_nil rfl
set_option maxHeartbeats 4000000 in
set_option maxRecDepth 10000 in
theorem where2_ok (hcmp : ∀ (a b : Str) (h : Heap) (K : V → Heap → Prop), K (.i .i64 (cmpB a b)) h → ACall P 114 [.s a, .s b] h K) (ca cb : ResD) (la lb ta tb : List PairD) (pods : List PodD) (p : PodD) (hs : StD.ok ⟨[⟨[97], ca, la, ta⟩, ⟨[98], cb, lb, tb⟩], pods⟩) (hp : p.fit)
    (hsm : Small ⟨[⟨[97], ca, la, ta⟩, ⟨[98], cb, lb, tb⟩], pods⟩) (h1 : feasD ⟨[⟨[97], ca, la, ta⟩, ⟨[98], cb, lb, tb⟩], pods⟩ p [97] = true) (h2 : feasD ⟨[⟨[97], ca, la, ta⟩, ⟨[98], cb, lb, tb⟩], pods⟩ p [98] = true) :
    Pure P 24 [stV ⟨[⟨[97], ca, la, ta⟩, ⟨[98], cb, lb, tb⟩], pods⟩, .agg (podR p)] (· = .sl none 1 [[.s [97]], [.s [98]]]) := by
  have a1 := feas_ok hG _ p [97] hs hp hsm
  have a2 := feas_ok hG _ p [98] hs hp hsm
  rw [h1] at a1
  rw [h2] at a2
  refine pure_fn (hG _ AF.f24 rfl) rfl ?_
  ((conv => whnf); repeat ((first | refine SCall.app (Pure.go a1 rfl) ?_ | refine SCall.app (Pure.go a2 rfl) ?_ | refine SCall.app (hcmp _ _ _ _) ?_ | refine SCall.app (fn_sf (hG _ _ rfl) rfl) ?_ | refine SLoopB.un rfl ?_ | refine SWrap.wu (by show (0 : Int) ≤ 2; decide) (by show (2 : Int) ≤ _; decide) ?_ | refine SWrap.of (by show _ ≤ (2 : Int); decide) (by show (2 : Int) ≤ _; decide) ?_ | refine SIf.ff rfl ?_ | refine SIf.tt rfl ?_ | refine SOpt.of rfl ?_ | refine SChk.mk rfl ?_ | refine SSame.mk rfl ?_ | refine SEx.of rfl ?_ | refine SOpt.no rfl ?_ | refine SWrap.w64 (by omega) (by omega) ?_ | refine SIf.dt (by omega) ?_ | refine SIf.df (by omega) ?_ | refine SIf.nt (by omega) ?_ | refine SIf.nf (by omega) ?_ | refine SChk.d (by omega) ?_ | refine SChk.ix (by omega) (by omega) ?_ | refine SChk.d3 (by omega) (by omega) (by omega) ?_ | refine SLoopZ.un rfl ?_) <;> (conv => whnf)))
  exact pure_ms rfl rfl (Nat.le_refl _) rfl
theorem best2_ok (s : StD) (p : PodD) (pack : Bool) (sa sb : Int) (hw : Pure P 24 [stV s, .agg (podR p)] (· = .sl none 1 [[.s [97]], [.s [98]]])) (ha : Pure P 26 [stV s, .agg (podR p), .s [97], .b pack] (· = .i .i64 sa))
    (hb : Pure P 26 [stV s, .agg (podR p), .s [98], .b pack] (· = .i .i64 sb)) (h1 : 0 ≤ sa) (h2 : 0 ≤ sb) : Pure P 17 [stV s, .agg (podR p), .b pack] (· = .tup [.s (if sa < sb then [98] else [97]), .b true]) := by
  refine pure_fn (hG _ AF.f17 rfl) rfl ?_
  by_cases h : sa < sb
  · have e1 : decide (sa ≥ 0) = true := decide_eq_true h1
    have e2 : decide (sb ≥ 0) = true := decide_eq_true h2
    rw [if_pos h]
    ((conv => whnf); repeat ((first | refine SCall.app (Pure.go hw rfl) ?_ | refine SCall.app (Pure.go ha rfl) ?_ | refine SCall.app (Pure.go hb rfl) ?_ | refine SIf.ff rfl ?_ | refine SIf.tt rfl ?_ | refine SOpt.of rfl ?_ | refine SChk.mk rfl ?_ | refine SSame.mk rfl ?_ | refine SEx.of rfl ?_ | refine SOpt.no rfl ?_ | refine SWrap.w64 (by omega) (by omega) ?_ | refine SIf.dt (by omega) ?_ | refine SIf.df (by omega) ?_ | refine SIf.nt (by omega) ?_ | refine SIf.nf (by omega) ?_ | refine SChk.d (by omega) ?_ | refine SChk.ix (by omega) (by omega) ?_ | refine SChk.d3 (by omega) (by omega) (by omega) ?_ | refine SLoopZ.un rfl ?_) <;> (conv => whnf)))
    exact pure_free rfl (by simp; omega)
  · rw [if_neg h]
    ((conv => whnf); repeat ((first | refine SCall.app (Pure.go hw rfl) ?_ | refine SCall.app (Pure.go ha rfl) ?_ | refine SCall.app (Pure.go hb rfl) ?_ | refine SIf.ff rfl ?_ | refine SIf.tt rfl ?_ | refine SOpt.of rfl ?_ | refine SChk.mk rfl ?_ | refine SSame.mk rfl ?_ | refine SEx.of rfl ?_ | refine SOpt.no rfl ?_ | refine SWrap.w64 (by omega) (by omega) ?_ | refine SIf.dt (by omega) ?_ | refine SIf.df (by omega) ?_ | refine SIf.nt (by omega) ?_ | refine SIf.nf (by omega) ?_ | refine SChk.d (by omega) ?_ | refine SChk.ix (by omega) (by omega) ?_ | refine SChk.d3 (by omega) (by omega) (by omega) ?_ | refine SLoopZ.un rfl ?_) <;> (conv => whnf)))
    exact pure_free rfl (by simp; omega)
end
end Go.Eng
/-
Two nodes alike but for their sizes.
-/
namespace Go.Eng
open Go
def nN (name : Str) (c : Int) : NodeD := ⟨name, ⟨c, c, c⟩, [], []⟩
def pN (name : Str) (uid d : Int) (node : Str) (term : Int) : PodD := ⟨name, uid, 0, ⟨d, d, d⟩, [], [], [], [], [], [], 0, [], node, term⟩
def two (ca cb : Int) (pods : List PodD) : StD := ⟨[⟨[97], ⟨ca, ca, ca⟩, [], []⟩, ⟨[98], ⟨cb, cb, cb⟩, [], []⟩], pods⟩
theorem len0 {α : Type} : LenOk ([] : List α) := Nat.zero_le _
theorem terms0 : TermsOk [] := ⟨len0, fun _ h => by cases h⟩
theorem tr0 : TermsRoom [] := ⟨by decide, fun _ h => by cases h⟩
theorem pN_fit {name : Str} {uid d : Int} {node : Str} {term : Int} (h : in64 d) : (pN name uid d node term).fit := ⟨⟨len0, len0, len0, terms0, terms0, terms0⟩, h, h, h⟩
theorem pN_room {name : Str} {uid d : Int} {node : Str} {term : Int} : PodRoom (pN name uid d node term) := ⟨Nat.zero_le _, Nat.zero_le _, Nat.zero_le _, tr0, tr0, tr0⟩
theorem two_ok {ca cb : Int} {pods : List PodD} (hp : ∀ q ∈ pods, q.fit) (hl : pods.length ≤ 1) : (two ca cb pods).ok := by
  refine ⟨(show (2 : Nat) ≤ 9223372036854775807 by decide), (show pods.length ≤ _ by omega), fun n hn => ?_, hp, (show pods.length * 248 ≤ _ by omega)⟩
  simp only [two, List.mem_cons, List.not_mem_nil, or_false] at hn
  rcases hn with rfl | rfl <;> exact ⟨len0, len0⟩
theorem two_small {ca cb : Int} {pods : List PodD} : Small (two ca cb pods) := fun n hn => by
  simp only [two, List.mem_cons, List.not_mem_nil, or_false] at hn
  have z : 0 * 32 ≤ 140737488355328 := by decide
  rcases hn with rfl | rfl <;> exact ⟨z, z⟩
theorem room_of {s : StD} {n : NodeD} {name : Str} {uid d c u : Int} {node : Str} {term : Int} (hu : usedD s n.name = some ⟨u, u, u⟩) (hc : n.cap = ⟨c, c, c⟩) (h0 : 0 ≤ u) (h1 : 0 ≤ d) (h2 : u + d ≤ c) (h3 : c ≤ 1000000000) :
    roomD s (pN name uid d node term) n = true := by
  have ha : addD ⟨u, u, u⟩ (pN name uid d node term).req = some ⟨u + d, u + d, u + d⟩ := addD_t (x := ⟨u, u, u⟩) (y := ⟨d, d, d⟩) (by dsimp only; omega)
  simp only [roomD, hu, ha, fitsD, hc, decide_eq_true h2, Bool.and_self]
theorem feas_of {s : StD} {n : NodeD} {nn name : Str} {uid d : Int} (hn : s.nodes.find? (fun n => n.name == nn) = some n) (hroom : roomD s (pN name uid d [] 0) n = true) (ht : n.taints = []) (hpods : ∀ q ∈ s.pods, q.anti = []) :
    feasD s (pN name uid d [] 0) nn = true := by
  have hp : portsD s (pN name uid d [] 0) n = true := by
    simp [portsD, pN]
  have hw : wantsD (pN name uid d [] 0) n = true := rfl
  have hb : borneD (pN name uid d [] 0) n = true := by simp [borneD, allD, ht]
  have ha : apartD s (pN name uid d [] 0) nn = true := by
    have : s.pods.any (badD s (pN name uid d [] 0) nn) = false := any_none fun q hq => by
      simp [badD, keepsD, hpods q hq, pN]
    rw [apartD, this]
    rfl
  have he : evenD s (pN name uid d [] 0) nn = true := rfl
  rw [feasD, hn]
  simp only [eachD, hroom, hp, hw, hb, ha, he]
  rfl
theorem two_a {ca cb : Int} {pods : List PodD} : (two ca cb pods).nodes.find? (fun n => n.name == [97]) = some ⟨[97], ⟨ca, ca, ca⟩, [], []⟩ := rfl
theorem two_b {ca cb : Int} {pods : List PodD} : (two ca cb pods).nodes.find? (fun n => n.name == [98]) = some ⟨[98], ⟨cb, cb, cb⟩, [], []⟩ := rfl
theorem share_in {m c : Int} (h0 : 0 ≤ m) (h1 : m ≤ c) (h2 : 1 ≤ c) : 0 ≤ (100 * m).tdiv c ∧ (100 * m).tdiv c ≤ 100 := by
  rw [Int.tdiv_eq_ediv_of_nonneg (by omega)]
  exact ⟨Int.ediv_nonneg (by omega) (by omega), Int.ediv_le_of_le_mul (by omega) (by omega)⟩
theorem share_lt {m c g : Int} (h2 : 1 ≤ c) (hm : c ≤ 100 * m) (hg : 2 * c ≤ g) : (100 * m).tdiv g < (100 * m).tdiv c := by
  rw [Int.tdiv_eq_ediv_of_nonneg (by omega), Int.tdiv_eq_ediv_of_nonneg (by omega)]
  have h1 : 1 ≤ 100 * m / c := Int.le_ediv_of_mul_le (by omega) (by omega)
  have h3 : 100 * m / g ≤ 100 * m / (2 * c) := by
    rw [Int.le_ediv_iff_mul_le (by omega)]
    exact Int.le_trans (Int.mul_le_mul_of_nonneg_left hg (Int.ediv_nonneg (by omega) (by omega))) (Int.ediv_mul_le _ (by omega))
  have h4 : 100 * m / (2 * c) = 100 * m / c / 2 := by rw [Int.mul_comm 2 c, Int.ediv_ediv_of_nonneg (by omega)]
  omega
end Go.Eng
