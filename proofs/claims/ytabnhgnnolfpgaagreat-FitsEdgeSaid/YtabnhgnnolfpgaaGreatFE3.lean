/-
Who is on a node on which all pods are; no port is had twice where nobody has ports; a state of one node is whole.
-/
import Derived.Test.YtabnhgnnolfpgaaGreatFE1
import Derived.Test.YtabnhgnnolfpgaaGreatFE0
set_option linter.unusedVariables false
set_option linter.unusedSimpArgs false
namespace Go.Eng
open Go
section
variable {P : Program} (hG : FnsOk P AF.fns.get)
include hG
set_option maxHeartbeats 8000000 in
set_option maxRecDepth 20000 in
theorem on_0 (ns : List NodeD) : Pure P 48 [stV ⟨ns, []⟩, .s [110]] (· = .sl none 16 (List.map podR [])) := by
  refine pure_fn (hG _ AF.f48 rfl) rfl ?_
  ((conv => whnf); repeat ((first | refine SIf.ff rfl ?_ | refine SIf.tt rfl ?_ | refine SOpt.of rfl ?_ | refine SChk.mk rfl ?_ | refine SSame.mk rfl ?_ | refine SEx.of rfl ?_ | refine SOpt.no rfl ?_ | refine SWrap.w64 (by omega) (by omega) ?_ | refine SIf.dt (by omega) ?_ | refine SIf.df (by omega) ?_ | refine SIf.nt (by omega) ?_ | refine SIf.nf (by omega) ?_ | refine SChk.d (by omega) ?_ | refine SChk.ix (by omega) (by omega) ?_ | refine SChk.d3 (by omega) (by omega) (by omega) ?_ | refine SLoopZ.un rfl ?_) <;> (conv => whnf)))
  exact pure_nil rfl
set_option maxHeartbeats 8000000 in
set_option maxRecDepth 20000 in
theorem on_1 (ns : List NodeD) (r0 : ResD) : Pure P 48 [stV ⟨ns, [qN 97 1 r0]⟩, .s [110]] (· = .sl none 16 (List.map podR [qN 97 1 r0])) := by
  have c0 := copyPod_ok hG (qN 97 1 r0) qN_room
  refine pure_fn (hG _ AF.f48 rfl) rfl ?_
  ((conv => whnf); repeat ((first | refine SCall.app (Pure.go c0 rfl) ?_ | refine SIf.ff rfl ?_ | refine SIf.tt rfl ?_ | refine SOpt.of rfl ?_ | refine SChk.mk rfl ?_ | refine SSame.mk rfl ?_ | refine SEx.of rfl ?_ | refine SOpt.no rfl ?_ | refine SWrap.w64 (by omega) (by omega) ?_ | refine SIf.dt (by omega) ?_ | refine SIf.df (by omega) ?_ | refine SIf.nt (by omega) ?_ | refine SIf.nf (by omega) ?_ | refine SChk.d (by omega) ?_ | refine SChk.ix (by omega) (by omega) ?_ | refine SChk.d3 (by omega) (by omega) (by omega) ?_ | refine SLoopZ.un rfl ?_) <;> (conv => whnf)))
  exact pure_ms rfl rfl (Nat.le_refl _) rfl
set_option maxHeartbeats 8000000 in
set_option maxRecDepth 20000 in
theorem on_2 (ns : List NodeD) (r0 r1 : ResD) : Pure P 48 [stV ⟨ns, [qN 97 1 r0, qN 98 2 r1]⟩, .s [110]] (· = .sl none 16 (List.map podR [qN 97 1 r0, qN 98 2 r1])) := by
  have c0 := copyPod_ok hG (qN 97 1 r0) qN_room
  have c1 := copyPod_ok hG (qN 98 2 r1) qN_room
  refine pure_fn (hG _ AF.f48 rfl) rfl ?_
  ((conv => whnf); repeat ((first | refine SCall.app (Pure.go c0 rfl) ?_ | refine SCall.app (Pure.go c1 rfl) ?_ | refine SIf.ff rfl ?_ | refine SIf.tt rfl ?_ | refine SOpt.of rfl ?_ | refine SChk.mk rfl ?_ | refine SSame.mk rfl ?_ | refine SEx.of rfl ?_ | refine SOpt.no rfl ?_ | refine SWrap.w64 (by omega) (by omega) ?_ | refine SIf.dt (by omega) ?_ | refine SIf.df (by omega) ?_ | refine SIf.nt (by omega) ?_ | refine SIf.nf (by omega) ?_ | refine SChk.d (by omega) ?_ | refine SChk.ix (by omega) (by omega) ?_ | refine SChk.d3 (by omega) (by omega) (by omega) ?_ | refine SLoopZ.un rfl ?_) <;> (conv => whnf)))
  exact pure_ms rfl rfl (Nat.le_refl _) rfl
set_option maxHeartbeats 8000000 in
set_option maxRecDepth 20000 in
theorem on_3 (ns : List NodeD) (r0 r1 r2 : ResD) : Pure P 48 [stV ⟨ns, [qN 97 1 r0, qN 98 2 r1, qN 99 3 r2]⟩, .s [110]] (· = .sl none 16 (List.map podR [qN 97 1 r0, qN 98 2 r1, qN 99 3 r2])) := by
  have c0 := copyPod_ok hG (qN 97 1 r0) qN_room
  have c1 := copyPod_ok hG (qN 98 2 r1) qN_room
  have c2 := copyPod_ok hG (qN 99 3 r2) qN_room
  refine pure_fn (hG _ AF.f48 rfl) rfl ?_
  ((conv => whnf); repeat ((first | refine SCall.app (Pure.go c0 rfl) ?_ | refine SCall.app (Pure.go c1 rfl) ?_ | refine SCall.app (Pure.go c2 rfl) ?_ | refine SIf.ff rfl ?_ | refine SIf.tt rfl ?_ | refine SOpt.of rfl ?_ | refine SChk.mk rfl ?_ | refine SSame.mk rfl ?_ | refine SEx.of rfl ?_ | refine SOpt.no rfl ?_ | refine SWrap.w64 (by omega) (by omega) ?_ | refine SIf.dt (by omega) ?_ | refine SIf.df (by omega) ?_ | refine SIf.nt (by omega) ?_ | refine SIf.nf (by omega) ?_ | refine SChk.d (by omega) ?_ | refine SChk.ix (by omega) (by omega) ?_ | refine SChk.d3 (by omega) (by omega) (by omega) ?_ | refine SLoopZ.un rfl ?_) <;> (conv => whnf)))
  exact pure_ms rfl rfl (Nat.le_refl _) rfl
set_option maxHeartbeats 8000000 in
set_option maxRecDepth 20000 in
theorem on_4 (ns : List NodeD) (r0 r1 r2 r3 : ResD) : Pure P 48 [stV ⟨ns, [qN 97 1 r0, qN 98 2 r1, qN 99 3 r2, qN 100 4 r3]⟩, .s [110]] (· = .sl none 16 (List.map podR [qN 97 1 r0, qN 98 2 r1, qN 99 3 r2, qN 100 4 r3])) := by
  have c0 := copyPod_ok hG (qN 97 1 r0) qN_room
  have c1 := copyPod_ok hG (qN 98 2 r1) qN_room
  have c2 := copyPod_ok hG (qN 99 3 r2) qN_room
  have c3 := copyPod_ok hG (qN 100 4 r3) qN_room
  refine pure_fn (hG _ AF.f48 rfl) rfl ?_
  ((conv => whnf); repeat ((first | refine SCall.app (Pure.go c0 rfl) ?_ | refine SCall.app (Pure.go c1 rfl) ?_ | refine SCall.app (Pure.go c2 rfl) ?_ | refine SCall.app (Pure.go c3 rfl) ?_ | refine SIf.ff rfl ?_ | refine SIf.tt rfl ?_ | refine SOpt.of rfl ?_ | refine SChk.mk rfl ?_ | refine SSame.mk rfl ?_ | refine SEx.of rfl ?_ | refine SOpt.no rfl ?_ | refine SWrap.w64 (by omega) (by omega) ?_ | refine SIf.dt (by omega) ?_ | refine SIf.df (by omega) ?_ | refine SIf.nt (by omega) ?_ | refine SIf.nf (by omega) ?_ | refine SChk.d (by omega) ?_ | refine SChk.ix (by omega) (by omega) ?_ | refine SChk.d3 (by omega) (by omega) (by omega) ?_ | refine SLoopZ.un rfl ?_) <;> (conv => whnf)))
  exact pure_ms rfl rfl (Nat.le_refl _) rfl
set_option maxHeartbeats 8000000 in
set_option maxRecDepth 20000 in
theorem on_5 (ns : List NodeD) (r0 r1 r2 r3 r4 : ResD) : Pure P 48 [stV ⟨ns, [qN 97 1 r0, qN 98 2 r1, qN 99 3 r2, qN 100 4 r3, qN 101 5 r4]⟩, .s [110]] (· = .sl none 16 (List.map podR [qN 97 1 r0, qN 98 2 r1, qN 99 3 r2, qN 100 4 r3, qN 101 5 r4])) := by
  have c0 := copyPod_ok hG (qN 97 1 r0) qN_room
  have c1 := copyPod_ok hG (qN 98 2 r1) qN_room
  have c2 := copyPod_ok hG (qN 99 3 r2) qN_room
  have c3 := copyPod_ok hG (qN 100 4 r3) qN_room
  have c4 := copyPod_ok hG (qN 101 5 r4) qN_room
  refine pure_fn (hG _ AF.f48 rfl) rfl ?_
  ((conv => whnf); repeat ((first | refine SCall.app (Pure.go c0 rfl) ?_ | refine SCall.app (Pure.go c1 rfl) ?_ | refine SCall.app (Pure.go c2 rfl) ?_ | refine SCall.app (Pure.go c3 rfl) ?_ | refine SCall.app (Pure.go c4 rfl) ?_ | refine SIf.ff rfl ?_ | refine SIf.tt rfl ?_ | refine SOpt.of rfl ?_ | refine SChk.mk rfl ?_ | refine SSame.mk rfl ?_ | refine SEx.of rfl ?_ | refine SOpt.no rfl ?_ | refine SWrap.w64 (by omega) (by omega) ?_ | refine SIf.dt (by omega) ?_ | refine SIf.df (by omega) ?_ | refine SIf.nt (by omega) ?_ | refine SIf.nf (by omega) ?_ | refine SChk.d (by omega) ?_ | refine SChk.ix (by omega) (by omega) ?_ | refine SChk.d3 (by omega) (by omega) (by omega) ?_ | refine SLoopZ.un rfl ?_) <;> (conv => whnf)))
  exact pure_ms rfl rfl (Nat.le_refl _) rfl
set_option maxHeartbeats 8000000 in
set_option maxRecDepth 20000 in
theorem on_6 (ns : List NodeD) (r0 r1 r2 r3 r4 r5 : ResD) : Pure P 48 [stV ⟨ns, [qN 97 1 r0, qN 98 2 r1, qN 99 3 r2, qN 100 4 r3, qN 101 5 r4, qN 102 6 r5]⟩, .s [110]] (· = .sl none 16 (List.map podR [qN 97 1 r0, qN 98 2 r1, qN 99 3 r2, qN 100 4 r3, qN 101 5 r4, qN 102 6 r5])) := by
  have c0 := copyPod_ok hG (qN 97 1 r0) qN_room
  have c1 := copyPod_ok hG (qN 98 2 r1) qN_room
  have c2 := copyPod_ok hG (qN 99 3 r2) qN_room
  have c3 := copyPod_ok hG (qN 100 4 r3) qN_room
  have c4 := copyPod_ok hG (qN 101 5 r4) qN_room
  have c5 := copyPod_ok hG (qN 102 6 r5) qN_room
  refine pure_fn (hG _ AF.f48 rfl) rfl ?_
  ((conv => whnf); repeat ((first | refine SCall.app (Pure.go c0 rfl) ?_ | refine SCall.app (Pure.go c1 rfl) ?_ | refine SCall.app (Pure.go c2 rfl) ?_ | refine SCall.app (Pure.go c3 rfl) ?_ | refine SCall.app (Pure.go c4 rfl) ?_ | refine SCall.app (Pure.go c5 rfl) ?_ | refine SIf.ff rfl ?_ | refine SIf.tt rfl ?_ | refine SOpt.of rfl ?_ | refine SChk.mk rfl ?_ | refine SSame.mk rfl ?_ | refine SEx.of rfl ?_ | refine SOpt.no rfl ?_ | refine SWrap.w64 (by omega) (by omega) ?_ | refine SIf.dt (by omega) ?_ | refine SIf.df (by omega) ?_ | refine SIf.nt (by omega) ?_ | refine SIf.nf (by omega) ?_ | refine SChk.d (by omega) ?_ | refine SChk.ix (by omega) (by omega) ?_ | refine SChk.d3 (by omega) (by omega) (by omega) ?_ | refine SLoopZ.un rfl ?_) <;> (conv => whnf)))
  exact pure_ms rfl rfl (Nat.le_refl _) rfl
set_option maxHeartbeats 8000000 in
set_option maxRecDepth 20000 in
theorem on_7 (ns : List NodeD) (r0 r1 r2 r3 r4 r5 r6 : ResD) : Pure P 48 [stV ⟨ns, [qN 97 1 r0, qN 98 2 r1, qN 99 3 r2, qN 100 4 r3, qN 101 5 r4, qN 102 6 r5, qN 103 7 r6]⟩, .s [110]] (· = .sl none 16 (List.map podR [qN 97 1 r0, qN 98 2 r1, qN 99 3 r2, qN 100 4 r3, qN 101 5 r4, qN 102 6 r5, qN 103 7 r6])) := by
  have c0 := copyPod_ok hG (qN 97 1 r0) qN_room
  have c1 := copyPod_ok hG (qN 98 2 r1) qN_room
  have c2 := copyPod_ok hG (qN 99 3 r2) qN_room
  have c3 := copyPod_ok hG (qN 100 4 r3) qN_room
  have c4 := copyPod_ok hG (qN 101 5 r4) qN_room
  have c5 := copyPod_ok hG (qN 102 6 r5) qN_room
  have c6 := copyPod_ok hG (qN 103 7 r6) qN_room
  refine pure_fn (hG _ AF.f48 rfl) rfl ?_
  ((conv => whnf); repeat ((first | refine SCall.app (Pure.go c0 rfl) ?_ | refine SCall.app (Pure.go c1 rfl) ?_ | refine SCall.app (Pure.go c2 rfl) ?_ | refine SCall.app (Pure.go c3 rfl) ?_ | refine SCall.app (Pure.go c4 rfl) ?_ | refine SCall.app (Pure.go c5 rfl) ?_ | refine SCall.app (Pure.go c6 rfl) ?_ | refine SIf.ff rfl ?_ | refine SIf.tt rfl ?_ | refine SOpt.of rfl ?_ | refine SChk.mk rfl ?_ | refine SSame.mk rfl ?_ | refine SEx.of rfl ?_ | refine SOpt.no rfl ?_ | refine SWrap.w64 (by omega) (by omega) ?_ | refine SIf.dt (by omega) ?_ | refine SIf.df (by omega) ?_ | refine SIf.nt (by omega) ?_ | refine SIf.nf (by omega) ?_ | refine SChk.d (by omega) ?_ | refine SChk.ix (by omega) (by omega) ?_ | refine SChk.d3 (by omega) (by omega) (by omega) ?_ | refine SLoopZ.un rfl ?_) <;> (conv => whnf)))
  exact pure_ms rfl rfl (Nat.le_refl _) rfl
set_option maxHeartbeats 8000000 in
set_option maxRecDepth 20000 in
theorem on_8 (ns : List NodeD) (r0 r1 r2 r3 r4 r5 r6 r7 : ResD) : Pure P 48 [stV ⟨ns, [qN 97 1 r0, qN 98 2 r1, qN 99 3 r2, qN 100 4 r3, qN 101 5 r4, qN 102 6 r5, qN 103 7 r6, qN 104 8 r7]⟩, .s [110]] (· = .sl none 16 (List.map podR [qN 97 1 r0, qN 98 2 r1, qN 99 3 r2, qN 100 4 r3, qN 101 5 r4, qN 102 6 r5, qN 103 7 r6, qN 104 8 r7])) := by
  have c0 := copyPod_ok hG (qN 97 1 r0) qN_room
  have c1 := copyPod_ok hG (qN 98 2 r1) qN_room
  have c2 := copyPod_ok hG (qN 99 3 r2) qN_room
  have c3 := copyPod_ok hG (qN 100 4 r3) qN_room
  have c4 := copyPod_ok hG (qN 101 5 r4) qN_room
  have c5 := copyPod_ok hG (qN 102 6 r5) qN_room
  have c6 := copyPod_ok hG (qN 103 7 r6) qN_room
  have c7 := copyPod_ok hG (qN 104 8 r7) qN_room
  refine pure_fn (hG _ AF.f48 rfl) rfl ?_
  ((conv => whnf); repeat ((first | refine SCall.app (Pure.go c0 rfl) ?_ | refine SCall.app (Pure.go c1 rfl) ?_ | refine SCall.app (Pure.go c2 rfl) ?_ | refine SCall.app (Pure.go c3 rfl) ?_ | refine SCall.app (Pure.go c4 rfl) ?_ | refine SCall.app (Pure.go c5 rfl) ?_ | refine SCall.app (Pure.go c6 rfl) ?_ | refine SCall.app (Pure.go c7 rfl) ?_ | refine SIf.ff rfl ?_ | refine SIf.tt rfl ?_ | refine SOpt.of rfl ?_ | refine SChk.mk rfl ?_ | refine SSame.mk rfl ?_ | refine SEx.of rfl ?_ | refine SOpt.no rfl ?_ | refine SWrap.w64 (by omega) (by omega) ?_ | refine SIf.dt (by omega) ?_ | refine SIf.df (by omega) ?_ | refine SIf.nt (by omega) ?_ | refine SIf.nf (by omega) ?_ | refine SChk.d (by omega) ?_ | refine SChk.ix (by omega) (by omega) ?_ | refine SChk.d3 (by omega) (by omega) (by omega) ?_ | refine SLoopZ.un rfl ?_) <;> (conv => whnf)))
  exact pure_ms rfl rfl (Nat.le_refl _) rfl
set_option maxHeartbeats 4000000 in
set_option maxRecDepth 10000 in
theorem noports_ok (ps : List PodD) (hl : ps.length ≤ 8) (hn : ∀ q ∈ ps, q.ports = []) : Pure P 47 [.sl none 16 (ps.map podR)] (· = .b true) := by
  have hlm : (ps.map podR).length = ps.length := List.length_map _
  refine pure_fn (hG _ AF.f47 rfl) rfl ?_
  ((conv => whnf); repeat ((first | refine SIf.ff rfl ?_ | refine SIf.tt rfl ?_ | refine SOpt.of rfl ?_ | refine SChk.mk rfl ?_ | refine SSame.mk rfl ?_ | refine SEx.of rfl ?_ | refine SOpt.no rfl ?_ | refine SWrap.w64 (by omega) (by omega) ?_ | refine SIf.dt (by omega) ?_ | refine SIf.df (by omega) ?_ | refine SIf.nt (by omega) ?_ | refine SIf.nf (by omega) ?_ | refine SChk.d (by omega) ?_ | refine SChk.ix (by omega) (by omega) ?_ | refine SChk.d3 (by omega) (by omega) (by omega) ?_) <;> (conv => whnf)))
  refine SLoopZ.by (fun q fr st => ∃ i : Nat, i ≤ ps.length ∧ q = ps.length - i ∧ fr = [(13, .i .i64 i), (12, .i .i64 (ps.map podR).length), (11, .sl none 16 (ps.map podR)), (3, .m (.g 0))] ∧ st = ⟨⟨1, [(0, .mp (some .i64) [])]⟩, noL⟩)
    ps.length ⟨_, _, ?_, 0, Nat.zero_le _, rfl, rfl, rfl⟩ ?_
  · exact telGL [0] [] rfl rfl (by decide) (by decide) (by ((repeat (first | exact trivial | refine ⟨⟨Nat.le_of_ble_eq_true rfl, rfl, _, rfl, by first | exact trivial | exact ⟨rfl, trivial⟩ | exact ceL_flat rfl | exact ⟨rfl, ceLL_map (fun _ => rfl) _⟩ | exact ⟨rfl, ceL_flat rfl, trivial⟩ | exact ⟨rfl, ceM_seen _⟩ | exact ⟨rfl, ceLL_acc (by assumption)⟩ | exact (by ((repeat (first | exact trivial | refine ⟨by first | exact ce_flat rfl | exact .nil | exact .tok | exact .ren rfl (Nat.le_of_ble_eq_true rfl) | exact .rows (by ((repeat (first | exact .nil | refine .cons (by ((repeat (first | exact .nil | refine .cons (by first | exact .refl _ | exact .nil _) ?_)); first | done | fail)) ?_)); first | done | fail)), ?_⟩)); first | done | fail))⟩, ?_⟩)); first | done | fail)) (by ((repeat (first | exact trivial | refine ⟨⟨Nat.le_of_ble_eq_true rfl, rfl, _, rfl, by first | exact trivial | exact ⟨rfl, trivial⟩ | exact ceL_flat rfl | exact ⟨rfl, ceLL_map (fun _ => rfl) _⟩ | exact ⟨rfl, ceL_flat rfl, trivial⟩ | exact ⟨rfl, ceM_seen _⟩ | exact ⟨rfl, ceLL_acc (by assumption)⟩ | exact (by ((repeat (first | exact trivial | refine ⟨by first | exact ce_flat rfl | exact .nil | exact .tok | exact .ren rfl (Nat.le_of_ble_eq_true rfl) | exact .rows (by ((repeat (first | exact .nil | refine .cons (by ((repeat (first | exact .nil | refine .cons (by first | exact .refl _ | exact .nil _) ?_)); first | done | fail)) ?_)); first | done | fail)), ?_⟩)); first | done | fail))⟩, ?_⟩)); first | done | fail)) (by ((repeat (first | exact FrC.nil | refine FrC.cons (by first | exact ce2_free rfl | exact ce2_p rfl (Nat.le_of_ble_eq_true rfl) | exact ce2_ms rfl (Nat.le_of_ble_eq_true rfl) | exact ce2_m rfl (Nat.le_of_ble_eq_true rfl) | exact ce2_tok rfl (Nat.le_of_ble_eq_true rfl) | exact ce2_untok | exact ce2_nil | exact .inl (.inl (.rows (by ((repeat (first | exact .nil | refine .cons (by ((repeat (first | exact .nil | refine .cons (by first | exact .refl _ | exact .nil _) ?_)); first | done | fail)) ?_)); first | done | fail)))) | exact .inl (.inr (.inl ⟨_, _, rfl, rfl, (by ((repeat (first | exact trivial | refine ⟨by first | exact ce_flat rfl | exact .nil | exact .tok | exact .ren rfl (Nat.le_of_ble_eq_true rfl) | exact .rows (by ((repeat (first | exact .nil | refine .cons (by ((repeat (first | exact .nil | refine .cons (by first | exact .refl _ | exact .nil _) ?_)); first | done | fail)) ?_)); first | done | fail)), ?_⟩)); first | done | fail))⟩))) ?_)); first | done | fail))
  rintro q fr st ⟨i, hi, rfl, rfl, rfl⟩ R hR
  (conv => whnf)
  refine SIf.ds (fun hlt => ?_) (fun hge => ?_)
  · have hi' : i < ps.length := by omega
    have he := List.getElem?_eq_getElem hi'
    have hp := hn _ (List.getElem_mem hi')
    generalize ps[i] = e at he hp
    obtain ⟨e1, e2, e3, e4, e5, e6, e7, e8, e9, e10, e11, e12, e13, e14⟩ := e
    obtain rfl : e5 = [] := hp
    ((conv => whnf); repeat ((first | refine SEx.of (map_get' (by omega) he) ?_ | refine SIf.ff rfl ?_ | refine SIf.tt rfl ?_ | refine SOpt.of rfl ?_ | refine SChk.mk rfl ?_ | refine SSame.mk rfl ?_ | refine SEx.of rfl ?_ | refine SOpt.no rfl ?_ | refine SWrap.w64 (by omega) (by omega) ?_ | refine SIf.dt (by omega) ?_ | refine SIf.df (by omega) ?_ | refine SIf.nt (by omega) ?_ | refine SIf.nf (by omega) ?_ | refine SChk.d (by omega) ?_ | refine SChk.ix (by omega) (by omega) ?_ | refine SChk.d3 (by omega) (by omega) (by omega) ?_ | refine SLoopZ.un rfl ?_) <;> (conv => whnf)))
    refine hR (ps.length - (i + 1)) _ _ (by omega) ⟨_, _, ?_, i + 1, by omega, rfl, rfl, rfl⟩
    exact telGL [0] [] rfl rfl (by decide) (by decide) (by ((repeat (first | exact trivial | refine ⟨⟨Nat.le_of_ble_eq_true rfl, rfl, _, rfl, by first | exact trivial | exact ⟨rfl, trivial⟩ | exact ceL_flat rfl | exact ⟨rfl, ceLL_map (fun _ => rfl) _⟩ | exact ⟨rfl, ceL_flat rfl, trivial⟩ | exact ⟨rfl, ceM_seen _⟩ | exact ⟨rfl, ceLL_acc (by assumption)⟩ | exact (by ((repeat (first | exact trivial | refine ⟨by first | exact ce_flat rfl | exact .nil | exact .tok | exact .ren rfl (Nat.le_of_ble_eq_true rfl) | exact .rows (by ((repeat (first | exact .nil | refine .cons (by ((repeat (first | exact .nil | refine .cons (by first | exact .refl _ | exact .nil _) ?_)); first | done | fail)) ?_)); first | done | fail)), ?_⟩)); first | done | fail))⟩, ?_⟩)); first | done | fail)) (by ((repeat (first | exact trivial | refine ⟨⟨Nat.le_of_ble_eq_true rfl, rfl, _, rfl, by first | exact trivial | exact ⟨rfl, trivial⟩ | exact ceL_flat rfl | exact ⟨rfl, ceLL_map (fun _ => rfl) _⟩ | exact ⟨rfl, ceL_flat rfl, trivial⟩ | exact ⟨rfl, ceM_seen _⟩ | exact ⟨rfl, ceLL_acc (by assumption)⟩ | exact (by ((repeat (first | exact trivial | refine ⟨by first | exact ce_flat rfl | exact .nil | exact .tok | exact .ren rfl (Nat.le_of_ble_eq_true rfl) | exact .rows (by ((repeat (first | exact .nil | refine .cons (by ((repeat (first | exact .nil | refine .cons (by first | exact .refl _ | exact .nil _) ?_)); first | done | fail)) ?_)); first | done | fail)), ?_⟩)); first | done | fail))⟩, ?_⟩)); first | done | fail)) (by ((repeat (first | exact FrC.nil | refine FrC.cons (by first | exact ce2_free rfl | exact ce2_p rfl (Nat.le_of_ble_eq_true rfl) | exact ce2_ms rfl (Nat.le_of_ble_eq_true rfl) | exact ce2_m rfl (Nat.le_of_ble_eq_true rfl) | exact ce2_tok rfl (Nat.le_of_ble_eq_true rfl) | exact ce2_untok | exact ce2_nil | exact .inl (.inl (.rows (by ((repeat (first | exact .nil | refine .cons (by ((repeat (first | exact .nil | refine .cons (by first | exact .refl _ | exact .nil _) ?_)); first | done | fail)) ?_)); first | done | fail)))) | exact .inl (.inr (.inl ⟨_, _, rfl, rfl, (by ((repeat (first | exact trivial | refine ⟨by first | exact ce_flat rfl | exact .nil | exact .tok | exact .ren rfl (Nat.le_of_ble_eq_true rfl) | exact .rows (by ((repeat (first | exact .nil | refine .cons (by ((repeat (first | exact .nil | refine .cons (by first | exact .refl _ | exact .nil _) ?_)); first | done | fail)) ?_)); first | done | fail)), ?_⟩)); first | done | fail))⟩))) ?_)); first | done | fail))
  · ((conv => whnf); repeat ((first | refine SIf.ff rfl ?_ | refine SIf.tt rfl ?_ | refine SOpt.of rfl ?_ | refine SChk.mk rfl ?_ | refine SSame.mk rfl ?_ | refine SEx.of rfl ?_ | refine SOpt.no rfl ?_ | refine SWrap.w64 (by omega) (by omega) ?_ | refine SIf.dt (by omega) ?_ | refine SIf.df (by omega) ?_ | refine SIf.nt (by omega) ?_ | refine SIf.nf (by omega) ?_ | refine SChk.d (by omega) ?_ | refine SChk.ix (by omega) (by omega) ?_ | refine SChk.d3 (by omega) (by omega) (by omega) ?_) <;> (conv => whnf)))
    exact pure_free rfl rfl
set_option maxHeartbeats 4000000 in
set_option maxRecDepth 10000 in
theorem whole_ok (c : ResD) (ps : List PodD) (hc : c.ok) (hl : ps.length ≤ 8) (hs : StD.ok ⟨[⟨[110], c, [], []⟩], ps⟩) (hon : Pure P 48 [stV ⟨[⟨[110], c, [], []⟩], ps⟩, .s [110]] (· = .sl none 16 (ps.map podR)))
    (hu : usedD ⟨[⟨[110], c, [], []⟩], ps⟩ [110] = some c) (hn : ∀ q ∈ ps, q.ports = [] ∧ q.node = [110]) : Pure P 13 [stV ⟨[⟨[110], c, [], []⟩], ps⟩] (· = .b true) := by
  have hlm : (ps.map podR).length = ps.length := List.length_map _
  have hsm : Small ⟨[⟨[110], c, [], []⟩], ps⟩ := fun n h => by
    have h : n ∈ [(⟨[110], c, [], []⟩ : NodeD)] := h
    rw [List.mem_singleton] at h
    subst h
    exact ⟨Nat.zero_le _, Nat.zero_le _⟩
  have a1 := used_ok hG ⟨[⟨[110], c, [], []⟩], ps⟩ [110] hs.pods (by have := hs.some; omega) (fun q hq => (hs.pod q hq).req)
  rw [hu] at a1
  have a2 := fits_ok hG c c
  have hcc : fitsD c c = true := by simp [fitsD]
  rw [hcc] at a2
  have a3 := noports_ok hG ps hl (fun q hq => (hn q hq).1)
  have a4 := getnode_ok hG ⟨[⟨[110], c, [], []⟩], ps⟩ [110] hs.nodes hsm
  have hf : (StD.nodes ⟨[⟨[110], c, [], []⟩], ps⟩).find? (fun p => p.name == [110]) = some ⟨[110], c, [], []⟩ := rfl
  rw [hf] at a4
  refine pure_fn (hG _ AF.f13 rfl) rfl ?_
  ((conv => whnf); repeat ((first | refine SIf.ff rfl ?_ | refine SIf.tt rfl ?_ | refine SOpt.of rfl ?_ | refine SChk.mk rfl ?_ | refine SSame.mk rfl ?_ | refine SEx.of rfl ?_ | refine SOpt.no rfl ?_ | refine SWrap.w64 (by omega) (by omega) ?_ | refine SIf.dt (by omega) ?_ | refine SIf.df (by omega) ?_ | refine SIf.nt (by omega) ?_ | refine SIf.nf (by omega) ?_ | refine SChk.d (by omega) ?_ | refine SChk.ix (by omega) (by omega) ?_ | refine SChk.d3 (by omega) (by omega) (by omega) ?_) <;> (conv => whnf)))
  refine SLoopZ.un rfl ?_
  ((conv => whnf); repeat ((first | refine SCall.app (Pure.go a1 rfl) ?_ | refine SCall.app (Pure.go a2 rfl) ?_ | refine SCall.app (Pure.go hon rfl) ?_ | refine SCall.app (Pure.go a3 rfl) ?_ | refine SIf.ff rfl ?_ | refine SIf.tt rfl ?_ | refine SOpt.of rfl ?_ | refine SChk.mk rfl ?_ | refine SSame.mk rfl ?_ | refine SEx.of rfl ?_ | refine SOpt.no rfl ?_ | refine SWrap.w64 (by omega) (by omega) ?_ | refine SIf.dt (by omega) ?_ | refine SIf.df (by omega) ?_ | refine SIf.nt (by omega) ?_ | refine SIf.nf (by omega) ?_ | refine SChk.d (by omega) ?_ | refine SChk.ix (by omega) (by omega) ?_ | refine SChk.d3 (by omega) (by omega) (by omega) ?_) <;> (conv => whnf)))
  refine SLoopZ.un rfl ?_
  ((conv => whnf); repeat ((first | refine SIf.ff rfl ?_ | refine SIf.tt rfl ?_ | refine SOpt.of rfl ?_ | refine SChk.mk rfl ?_ | refine SSame.mk rfl ?_ | refine SEx.of rfl ?_ | refine SOpt.no rfl ?_ | refine SWrap.w64 (by omega) (by omega) ?_ | refine SIf.dt (by omega) ?_ | refine SIf.df (by omega) ?_ | refine SIf.nt (by omega) ?_ | refine SIf.nf (by omega) ?_ | refine SChk.d (by omega) ?_ | refine SChk.ix (by omega) (by omega) ?_ | refine SChk.d3 (by omega) (by omega) (by omega) ?_) <;> (conv => whnf)))
  refine SLoopZ.by (fun q fr st => ∃ i : Nat, i ≤ ps.length ∧ q = ps.length - i ∧ fr = [(46, .i .i64 i), (45, .i .i64 (ps.map podR).length), (44, .sl none 16 (ps.map podR)), (1, .p (.l 0) 0)] ∧
      st = ⟨noG, ⟨1, [(0, .cs [.sl none 6 (List.map nodeR [⟨[110], c, [], []⟩]), .sl none 16 (ps.map podR)])]⟩⟩)
    ps.length ⟨_, _, ?_, 0, Nat.zero_le _, rfl, rfl, rfl⟩ ?_
  · exact telL [0] rfl (by decide) (by ((repeat (first | exact trivial | refine ⟨⟨Nat.le_of_ble_eq_true rfl, rfl, _, rfl, by first | exact trivial | exact ⟨rfl, trivial⟩ | exact ceL_flat rfl | exact ⟨rfl, ceLL_map (fun _ => rfl) _⟩ | exact ⟨rfl, ceL_flat rfl, trivial⟩ | exact ⟨rfl, ceM_seen _⟩ | exact ⟨rfl, ceLL_acc (by assumption)⟩ | exact (by ((repeat (first | exact trivial | refine ⟨by first | exact ce_flat rfl | exact .nil | exact .tok | exact .ren rfl (Nat.le_of_ble_eq_true rfl) | exact .rows (by ((repeat (first | exact .nil | refine .cons (by ((repeat (first | exact .nil | refine .cons (by first | exact .refl _ | exact .nil _) ?_)); first | done | fail)) ?_)); first | done | fail)), ?_⟩)); first | done | fail))⟩, ?_⟩)); first | done | fail)) (by repeat (first | exact FrC.nil | refine FrC.cons (by first | exact ce2_free rfl | exact ce2_p rfl (Nat.le_of_ble_eq_true rfl) | exact ce2_tok rfl (Nat.le_of_ble_eq_true rfl) | exact ce2_untok | exact ce2_nil) ?_))
  rintro q fr st ⟨i, hi, rfl, rfl, rfl⟩ R hR
  (conv => whnf)
  refine SIf.ds (fun hlt => ?_) (fun hge => ?_)
  · have hi' : i < ps.length := by omega
    have he := List.getElem?_eq_getElem hi'
    have hp := (hn _ (List.getElem_mem hi')).2
    generalize ps[i] = e at he hp
    obtain ⟨e1, e2, e3, e4, e5, e6, e7, e8, e9, e10, e11, e12, e13, e14⟩ := e
    obtain rfl : e13 = [110] := hp
    ((conv => whnf); repeat ((first | refine SCall.app (Pure.go a4 rfl) ?_ | refine SEx.of (map_get' (by omega) he) ?_ | refine SIf.ff rfl ?_ | refine SIf.tt rfl ?_ | refine SOpt.of rfl ?_ | refine SChk.mk rfl ?_ | refine SSame.mk rfl ?_ | refine SEx.of rfl ?_ | refine SOpt.no rfl ?_ | refine SWrap.w64 (by omega) (by omega) ?_ | refine SIf.dt (by omega) ?_ | refine SIf.df (by omega) ?_ | refine SIf.nt (by omega) ?_ | refine SIf.nf (by omega) ?_ | refine SChk.d (by omega) ?_ | refine SChk.ix (by omega) (by omega) ?_ | refine SChk.d3 (by omega) (by omega) (by omega) ?_) <;> (conv => whnf)))
    refine hR (ps.length - (i + 1)) _ _ (by omega) ⟨_, _, ?_, i + 1, by omega, rfl, rfl, rfl⟩
    exact telL [0] rfl (by decide) (by ((repeat (first | exact trivial | refine ⟨⟨Nat.le_of_ble_eq_true rfl, rfl, _, rfl, by first | exact trivial | exact ⟨rfl, trivial⟩ | exact ceL_flat rfl | exact ⟨rfl, ceLL_map (fun _ => rfl) _⟩ | exact ⟨rfl, ceL_flat rfl, trivial⟩ | exact ⟨rfl, ceM_seen _⟩ | exact ⟨rfl, ceLL_acc (by assumption)⟩ | exact (by ((repeat (first | exact trivial | refine ⟨by first | exact ce_flat rfl | exact .nil | exact .tok | exact .ren rfl (Nat.le_of_ble_eq_true rfl) | exact .rows (by ((repeat (first | exact .nil | refine .cons (by ((repeat (first | exact .nil | refine .cons (by first | exact .refl _ | exact .nil _) ?_)); first | done | fail)) ?_)); first | done | fail)), ?_⟩)); first | done | fail))⟩, ?_⟩)); first | done | fail)) (by repeat (first | exact FrC.nil | refine FrC.cons (by first | exact ce2_free rfl | exact ce2_p rfl (Nat.le_of_ble_eq_true rfl) | exact ce2_tok rfl (Nat.le_of_ble_eq_true rfl) | exact ce2_untok | exact ce2_nil) ?_))
  · ((conv => whnf); repeat ((first | refine SIf.ff rfl ?_ | refine SIf.tt rfl ?_ | refine SOpt.of rfl ?_ | refine SChk.mk rfl ?_ | refine SSame.mk rfl ?_ | refine SEx.of rfl ?_ | refine SOpt.no rfl ?_ | refine SWrap.w64 (by omega) (by omega) ?_ | refine SIf.dt (by omega) ?_ | refine SIf.df (by omega) ?_ | refine SIf.nt (by omega) ?_ | refine SIf.nf (by omega) ?_ | refine SChk.d (by omega) ?_ | refine SChk.ix (by omega) (by omega) ?_ | refine SChk.d3 (by omega) (by omega) (by omega) ?_) <;> (conv => whnf)))
    exact pure_free rfl rfl
end
end Go.Eng
