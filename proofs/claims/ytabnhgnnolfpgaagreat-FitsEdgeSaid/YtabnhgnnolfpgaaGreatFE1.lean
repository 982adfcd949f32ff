/-
A state with a pod behind all others, for up to eight pods.
-/
import Derived.Test.YtabnhgnnolfpgaaGreatFitB5
set_option linter.unusedVariables false
set_option linter.unusedSimpArgs false
namespace Go.Eng
open Go
/-- The pod of a part. -/
def qN (c : UInt8) (u : Int) (r : ResD) : PodD := ⟨[c], u, 0, r, [], [], [], [], [], [], 0, [], [110], 1⟩
theorem qN_room {c : UInt8} {u : Int} {r : ResD} : PodRoom (qN c u r) := ⟨Nat.zero_le _, Nat.zero_le _, Nat.zero_le _, ⟨Nat.zero_le _, fun _ h => by cases h⟩, ⟨Nat.zero_le _, fun _ h => by cases h⟩, ⟨Nat.zero_le _, fun _ h => by cases h⟩⟩
theorem pure_aggms {Q : V → Prop} {k sz a n : Nat} {es ds : List (List V)} {h' : Heap} (h : h'.get k = some (.arr sz es)) (hd : deepElems es = some ds) (hn : a + n ≤ ds.length) (hq : Q (.agg [.sl none 6 [], .sl none sz ((ds.drop a).take n)])) : PureAt Q (.agg [.nils, .ms (.g k) sz a n]) h' :=
  pure_ce (u := .agg [.sl none 6 [], .sl none sz ((ds.drop a).take n)]) (fz1 k sz ds) (fz1_of h hd) (.inl (.inr (.inl ⟨_, _, rfl, rfl, ⟨.nil, .frz (by simp [fz1]) hn rfl, trivial⟩⟩))) rfl hq
section
variable {P : Program} (hG : FnsOk P AF.fns.get)
include hG
set_option maxHeartbeats 8000000 in
set_option maxRecDepth 20000 in
theorem with_0 (r0 : ResD) : Pure P 11 [stV ⟨[], []⟩, .agg (podR (qN 97 1 r0))] (· = stV ⟨[], [qN 97 1 r0]⟩) := by
  have c0 := copyPod_ok hG (qN 97 1 r0) qN_room
  refine pure_fn (hG _ AF.f11 rfl) rfl ?_
  ((conv => whnf); repeat ((first | refine SCall.app (Pure.go c0 rfl) ?_ | refine SCall.app (fn_sf (hG _ _ rfl) rfl) ?_ | refine SLoopB.un rfl ?_ | refine SWrap.w64 (by show _ ≤ (1 : Int); decide) (by show (1 : Int) ≤ _; decide) ?_ | refine SIf.ff rfl ?_ | refine SIf.tt rfl ?_ | refine SOpt.of rfl ?_ | refine SChk.mk rfl ?_ | refine SSame.mk rfl ?_ | refine SEx.of rfl ?_ | refine SOpt.no rfl ?_ | refine SWrap.w64 (by omega) (by omega) ?_ | refine SIf.dt (by omega) ?_ | refine SIf.df (by omega) ?_ | refine SIf.nt (by omega) ?_ | refine SIf.nf (by omega) ?_ | refine SChk.d (by omega) ?_ | refine SChk.ix (by omega) (by omega) ?_ | refine SChk.d3 (by omega) (by omega) (by omega) ?_ | refine SLoopZ.un rfl ?_) <;> (conv => whnf)))
  exact pure_aggms rfl rfl (Nat.le_refl _) rfl
set_option maxHeartbeats 8000000 in
set_option maxRecDepth 20000 in
theorem with_1 (r0 r1 : ResD) : Pure P 11 [stV ⟨[], [qN 97 1 r0]⟩, .agg (podR (qN 98 2 r1))] (· = stV ⟨[], [qN 97 1 r0, qN 98 2 r1]⟩) := by
  have c0 := copyPod_ok hG (qN 97 1 r0) qN_room
  have c1 := copyPod_ok hG (qN 98 2 r1) qN_room
  refine pure_fn (hG _ AF.f11 rfl) rfl ?_
  ((conv => whnf); repeat ((first | refine SCall.app (Pure.go c0 rfl) ?_ | refine SCall.app (Pure.go c1 rfl) ?_ | refine SCall.app (fn_sf (hG _ _ rfl) rfl) ?_ | refine SLoopB.un rfl ?_ | refine SWrap.w64 (by show _ ≤ (2 : Int); decide) (by show (2 : Int) ≤ _; decide) ?_ | refine SIf.ff rfl ?_ | refine SIf.tt rfl ?_ | refine SOpt.of rfl ?_ | refine SChk.mk rfl ?_ | refine SSame.mk rfl ?_ | refine SEx.of rfl ?_ | refine SOpt.no rfl ?_ | refine SWrap.w64 (by omega) (by omega) ?_ | refine SIf.dt (by omega) ?_ | refine SIf.df (by omega) ?_ | refine SIf.nt (by omega) ?_ | refine SIf.nf (by omega) ?_ | refine SChk.d (by omega) ?_ | refine SChk.ix (by omega) (by omega) ?_ | refine SChk.d3 (by omega) (by omega) (by omega) ?_ | refine SLoopZ.un rfl ?_) <;> (conv => whnf)))
  exact pure_aggms rfl rfl (Nat.le_refl _) rfl
set_option maxHeartbeats 8000000 in
set_option maxRecDepth 20000 in
theorem with_2 (r0 r1 r2 : ResD) : Pure P 11 [stV ⟨[], [qN 97 1 r0, qN 98 2 r1]⟩, .agg (podR (qN 99 3 r2))] (· = stV ⟨[], [qN 97 1 r0, qN 98 2 r1, qN 99 3 r2]⟩) := by
  have c0 := copyPod_ok hG (qN 97 1 r0) qN_room
  have c1 := copyPod_ok hG (qN 98 2 r1) qN_room
  have c2 := copyPod_ok hG (qN 99 3 r2) qN_room
  refine pure_fn (hG _ AF.f11 rfl) rfl ?_
  ((conv => whnf); repeat ((first | refine SCall.app (Pure.go c0 rfl) ?_ | refine SCall.app (Pure.go c1 rfl) ?_ | refine SCall.app (Pure.go c2 rfl) ?_ | refine SCall.app (fn_sf (hG _ _ rfl) rfl) ?_ | refine SLoopB.un rfl ?_ | refine SWrap.w64 (by show _ ≤ (3 : Int); decide) (by show (3 : Int) ≤ _; decide) ?_ | refine SIf.ff rfl ?_ | refine SIf.tt rfl ?_ | refine SOpt.of rfl ?_ | refine SChk.mk rfl ?_ | refine SSame.mk rfl ?_ | refine SEx.of rfl ?_ | refine SOpt.no rfl ?_ | refine SWrap.w64 (by omega) (by omega) ?_ | refine SIf.dt (by omega) ?_ | refine SIf.df (by omega) ?_ | refine SIf.nt (by omega) ?_ | refine SIf.nf (by omega) ?_ | refine SChk.d (by omega) ?_ | refine SChk.ix (by omega) (by omega) ?_ | refine SChk.d3 (by omega) (by omega) (by omega) ?_ | refine SLoopZ.un rfl ?_) <;> (conv => whnf)))
  exact pure_aggms rfl rfl (Nat.le_refl _) rfl
set_option maxHeartbeats 8000000 in
set_option maxRecDepth 20000 in
theorem with_3 (r0 r1 r2 r3 : ResD) : Pure P 11 [stV ⟨[], [qN 97 1 r0, qN 98 2 r1, qN 99 3 r2]⟩, .agg (podR (qN 100 4 r3))] (· = stV ⟨[], [qN 97 1 r0, qN 98 2 r1, qN 99 3 r2, qN 100 4 r3]⟩) := by
  have c0 := copyPod_ok hG (qN 97 1 r0) qN_room
  have c1 := copyPod_ok hG (qN 98 2 r1) qN_room
  have c2 := copyPod_ok hG (qN 99 3 r2) qN_room
  have c3 := copyPod_ok hG (qN 100 4 r3) qN_room
  refine pure_fn (hG _ AF.f11 rfl) rfl ?_
  ((conv => whnf); repeat ((first | refine SCall.app (Pure.go c0 rfl) ?_ | refine SCall.app (Pure.go c1 rfl) ?_ | refine SCall.app (Pure.go c2 rfl) ?_ | refine SCall.app (Pure.go c3 rfl) ?_ | refine SCall.app (fn_sf (hG _ _ rfl) rfl) ?_ | refine SLoopB.un rfl ?_ | refine SWrap.w64 (by show _ ≤ (4 : Int); decide) (by show (4 : Int) ≤ _; decide) ?_ | refine SIf.ff rfl ?_ | refine SIf.tt rfl ?_ | refine SOpt.of rfl ?_ | refine SChk.mk rfl ?_ | refine SSame.mk rfl ?_ | refine SEx.of rfl ?_ | refine SOpt.no rfl ?_ | refine SWrap.w64 (by omega) (by omega) ?_ | refine SIf.dt (by omega) ?_ | refine SIf.df (by omega) ?_ | refine SIf.nt (by omega) ?_ | refine SIf.nf (by omega) ?_ | refine SChk.d (by omega) ?_ | refine SChk.ix (by omega) (by omega) ?_ | refine SChk.d3 (by omega) (by omega) (by omega) ?_ | refine SLoopZ.un rfl ?_) <;> (conv => whnf)))
  exact pure_aggms rfl rfl (Nat.le_refl _) rfl
set_option maxHeartbeats 8000000 in
set_option maxRecDepth 20000 in
theorem with_4 (r0 r1 r2 r3 r4 : ResD) : Pure P 11 [stV ⟨[], [qN 97 1 r0, qN 98 2 r1, qN 99 3 r2, qN 100 4 r3]⟩, .agg (podR (qN 101 5 r4))] (· = stV ⟨[], [qN 97 1 r0, qN 98 2 r1, qN 99 3 r2, qN 100 4 r3, qN 101 5 r4]⟩) := by
  have c0 := copyPod_ok hG (qN 97 1 r0) qN_room
  have c1 := copyPod_ok hG (qN 98 2 r1) qN_room
  have c2 := copyPod_ok hG (qN 99 3 r2) qN_room
  have c3 := copyPod_ok hG (qN 100 4 r3) qN_room
  have c4 := copyPod_ok hG (qN 101 5 r4) qN_room
  refine pure_fn (hG _ AF.f11 rfl) rfl ?_
  ((conv => whnf); repeat ((first | refine SCall.app (Pure.go c0 rfl) ?_ | refine SCall.app (Pure.go c1 rfl) ?_ | refine SCall.app (Pure.go c2 rfl) ?_ | refine SCall.app (Pure.go c3 rfl) ?_ | refine SCall.app (Pure.go c4 rfl) ?_ | refine SCall.app (fn_sf (hG _ _ rfl) rfl) ?_ | refine SLoopB.un rfl ?_ | refine SWrap.w64 (by show _ ≤ (5 : Int); decide) (by show (5 : Int) ≤ _; decide) ?_ | refine SIf.ff rfl ?_ | refine SIf.tt rfl ?_ | refine SOpt.of rfl ?_ | refine SChk.mk rfl ?_ | refine SSame.mk rfl ?_ | refine SEx.of rfl ?_ | refine SOpt.no rfl ?_ | refine SWrap.w64 (by omega) (by omega) ?_ | refine SIf.dt (by omega) ?_ | refine SIf.df (by omega) ?_ | refine SIf.nt (by omega) ?_ | refine SIf.nf (by omega) ?_ | refine SChk.d (by omega) ?_ | refine SChk.ix (by omega) (by omega) ?_ | refine SChk.d3 (by omega) (by omega) (by omega) ?_ | refine SLoopZ.un rfl ?_) <;> (conv => whnf)))
  exact pure_aggms rfl rfl (Nat.le_refl _) rfl
set_option maxHeartbeats 8000000 in
set_option maxRecDepth 20000 in
theorem with_5 (r0 r1 r2 r3 r4 r5 : ResD) : Pure P 11 [stV ⟨[], [qN 97 1 r0, qN 98 2 r1, qN 99 3 r2, qN 100 4 r3, qN 101 5 r4]⟩, .agg (podR (qN 102 6 r5))] (· = stV ⟨[], [qN 97 1 r0, qN 98 2 r1, qN 99 3 r2, qN 100 4 r3, qN 101 5 r4, qN 102 6 r5]⟩) := by
  have c0 := copyPod_ok hG (qN 97 1 r0) qN_room
  have c1 := copyPod_ok hG (qN 98 2 r1) qN_room
  have c2 := copyPod_ok hG (qN 99 3 r2) qN_room
  have c3 := copyPod_ok hG (qN 100 4 r3) qN_room
  have c4 := copyPod_ok hG (qN 101 5 r4) qN_room
  have c5 := copyPod_ok hG (qN 102 6 r5) qN_room
  refine pure_fn (hG _ AF.f11 rfl) rfl ?_
  ((conv => whnf); repeat ((first | refine SCall.app (Pure.go c0 rfl) ?_ | refine SCall.app (Pure.go c1 rfl) ?_ | refine SCall.app (Pure.go c2 rfl) ?_ | refine SCall.app (Pure.go c3 rfl) ?_ | refine SCall.app (Pure.go c4 rfl) ?_ | refine SCall.app (Pure.go c5 rfl) ?_ | refine SCall.app (fn_sf (hG _ _ rfl) rfl) ?_ | refine SLoopB.un rfl ?_ | refine SWrap.w64 (by show _ ≤ (6 : Int); decide) (by show (6 : Int) ≤ _; decide) ?_ | refine SIf.ff rfl ?_ | refine SIf.tt rfl ?_ | refine SOpt.of rfl ?_ | refine SChk.mk rfl ?_ | refine SSame.mk rfl ?_ | refine SEx.of rfl ?_ | refine SOpt.no rfl ?_ | refine SWrap.w64 (by omega) (by omega) ?_ | refine SIf.dt (by omega) ?_ | refine SIf.df (by omega) ?_ | refine SIf.nt (by omega) ?_ | refine SIf.nf (by omega) ?_ | refine SChk.d (by omega) ?_ | refine SChk.ix (by omega) (by omega) ?_ | refine SChk.d3 (by omega) (by omega) (by omega) ?_ | refine SLoopZ.un rfl ?_) <;> (conv => whnf)))
  exact pure_aggms rfl rfl (Nat.le_refl _) rfl
set_option maxHeartbeats 8000000 in
set_option maxRecDepth 20000 in
theorem with_6 (r0 r1 r2 r3 r4 r5 r6 : ResD) : Pure P 11 [stV ⟨[], [qN 97 1 r0, qN 98 2 r1, qN 99 3 r2, qN 100 4 r3, qN 101 5 r4, qN 102 6 r5]⟩, .agg (podR (qN 103 7 r6))] (· = stV ⟨[], [qN 97 1 r0, qN 98 2 r1, qN 99 3 r2, qN 100 4 r3, qN 101 5 r4, qN 102 6 r5, qN 103 7 r6]⟩) := by
  have c0 := copyPod_ok hG (qN 97 1 r0) qN_room
  have c1 := copyPod_ok hG (qN 98 2 r1) qN_room
  have c2 := copyPod_ok hG (qN 99 3 r2) qN_room
  have c3 := copyPod_ok hG (qN 100 4 r3) qN_room
  have c4 := copyPod_ok hG (qN 101 5 r4) qN_room
  have c5 := copyPod_ok hG (qN 102 6 r5) qN_room
  have c6 := copyPod_ok hG (qN 103 7 r6) qN_room
  refine pure_fn (hG _ AF.f11 rfl) rfl ?_
  ((conv => whnf); repeat ((first | refine SCall.app (Pure.go c0 rfl) ?_ | refine SCall.app (Pure.go c1 rfl) ?_ | refine SCall.app (Pure.go c2 rfl) ?_ | refine SCall.app (Pure.go c3 rfl) ?_ | refine SCall.app (Pure.go c4 rfl) ?_ | refine SCall.app (Pure.go c5 rfl) ?_ | refine SCall.app (Pure.go c6 rfl) ?_ | refine SCall.app (fn_sf (hG _ _ rfl) rfl) ?_ | refine SLoopB.un rfl ?_ | refine SWrap.w64 (by show _ ≤ (7 : Int); decide) (by show (7 : Int) ≤ _; decide) ?_ | refine SIf.ff rfl ?_ | refine SIf.tt rfl ?_ | refine SOpt.of rfl ?_ | refine SChk.mk rfl ?_ | refine SSame.mk rfl ?_ | refine SEx.of rfl ?_ | refine SOpt.no rfl ?_ | refine SWrap.w64 (by omega) (by omega) ?_ | refine SIf.dt (by omega) ?_ | refine SIf.df (by omega) ?_ | refine SIf.nt (by omega) ?_ | refine SIf.nf (by omega) ?_ | refine SChk.d (by omega) ?_ | refine SChk.ix (by omega) (by omega) ?_ | refine SChk.d3 (by omega) (by omega) (by omega) ?_ | refine SLoopZ.un rfl ?_) <;> (conv => whnf)))
  exact pure_aggms rfl rfl (Nat.le_refl _) rfl
set_option maxHeartbeats 8000000 in
set_option maxRecDepth 20000 in
theorem with_7 (r0 r1 r2 r3 r4 r5 r6 r7 : ResD) : Pure P 11 [stV ⟨[], [qN 97 1 r0, qN 98 2 r1, qN 99 3 r2, qN 100 4 r3, qN 101 5 r4, qN 102 6 r5, qN 103 7 r6]⟩, .agg (podR (qN 104 8 r7))] (· = stV ⟨[], [qN 97 1 r0, qN 98 2 r1, qN 99 3 r2, qN 100 4 r3, qN 101 5 r4, qN 102 6 r5, qN 103 7 r6, qN 104 8 r7]⟩) := by
  have c0 := copyPod_ok hG (qN 97 1 r0) qN_room
  have c1 := copyPod_ok hG (qN 98 2 r1) qN_room
  have c2 := copyPod_ok hG (qN 99 3 r2) qN_room
  have c3 := copyPod_ok hG (qN 100 4 r3) qN_room
  have c4 := copyPod_ok hG (qN 101 5 r4) qN_room
  have c5 := copyPod_ok hG (qN 102 6 r5) qN_room
  have c6 := copyPod_ok hG (qN 103 7 r6) qN_room
  have c7 := copyPod_ok hG (qN 104 8 r7) qN_room
  refine pure_fn (hG _ AF.f11 rfl) rfl ?_
  ((conv => whnf); repeat ((first | refine SCall.app (Pure.go c0 rfl) ?_ | refine SCall.app (Pure.go c1 rfl) ?_ | refine SCall.app (Pure.go c2 rfl) ?_ | refine SCall.app (Pure.go c3 rfl) ?_ | refine SCall.app (Pure.go c4 rfl) ?_ | refine SCall.app (Pure.go c5 rfl) ?_ | refine SCall.app (Pure.go c6 rfl) ?_ | refine SCall.app (Pure.go c7 rfl) ?_ | refine SCall.app (fn_sf (hG _ _ rfl) rfl) ?_ | refine SLoopB.un rfl ?_ | refine SWrap.w64 (by show _ ≤ (8 : Int); decide) (by show (8 : Int) ≤ _; decide) ?_ | refine SIf.ff rfl ?_ | refine SIf.tt rfl ?_ | refine SOpt.of rfl ?_ | refine SChk.mk rfl ?_ | refine SSame.mk rfl ?_ | refine SEx.of rfl ?_ | refine SOpt.no rfl ?_ | refine SWrap.w64 (by omega) (by omega) ?_ | refine SIf.dt (by omega) ?_ | refine SIf.df (by omega) ?_ | refine SIf.nt (by omega) ?_ | refine SIf.nf (by omega) ?_ | refine SChk.d (by omega) ?_ | refine SChk.ix (by omega) (by omega) ?_ | refine SChk.d3 (by omega) (by omega) (by omega) ?_ | refine SLoopZ.un rfl ?_) <;> (conv => whnf)))
  exact pure_aggms rfl rfl (Nat.le_refl _) rfl
end
end Go.Eng
