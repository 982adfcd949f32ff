/-
FeasEach, as the abstract run has it.
-/
import Derived.Test.YtfobkjdmohaakaaGreatLaw0
import Derived.Test.YtfobkjdmohaakaaGreatFitG
set_option linter.unusedVariables false
set_option linter.unusedSimpArgs false
namespace Go.Eng
open Go
theorem find_own {l : List NodeD} (h : l.Pairwise fun a b => a.name ≠ b.name) {e : NodeD} (he : e ∈ l) : l.find? (fun n => n.name == e.name) = some e := by
  induction l with
  | nil => cases he
  | cons x r ih =>
    rw [List.pairwise_cons] at h
    rw [List.find?_cons]
    cases he with
    | head => simp
    | tail _ he =>
      have : (x.name == e.name) = false := by simpa using h.1 e he
      rw [this]
      exact ih h.2 he
theorem CutOf.small {s w : StD} (h : CutOf s w) : Small w := fun n hn => by
  have := h.nodes.sub n hn
  omega
theorem CutOf.none {s w : StD} (h : CutOf s w) (p : PodD) : feasD w p noneS = false := by
  have : w.nodes.find? (fun n => n.name == noneS) = .none := List.find?_eq_none.2 fun n hn => by simpa using (h.nodes.sub n hn).2.2.2
  rw [feasD, this]
theorem CutOf.each {s w : StD} (h : CutOf s w) (p : PodD) {e : NodeD} (he : e ∈ w.nodes) : feasD w p e.name = eachD w p e e.name := by
  rw [feasD, find_own h.nodes.names he]
section
variable {P : Program} (hG : FnsOk P AF.fns.get)
include hG
set_option maxHeartbeats 4000000 in
set_option maxRecDepth 10000 in
theorem feasEach_ok (hb : ACall P 21 [] noG (fun r _ => r = .b true)) (s : StD) (p : PodD) (hs : s.arg) (hp : p.fit ∧ p.sok) : ACall P 12 [stV s, .agg (podR p)] noG (fun r _ => r = .b true) := by
  refine fn_sz (hG _ AF.f12 rfl) rfl ?_
  ((conv => whnf); repeat ((first | refine SIf.ff rfl ?_ | refine SIf.tt rfl ?_ | refine SOpt.of rfl ?_ | refine SChk.mk rfl ?_ | refine SSame.mk rfl ?_ | refine SEx.of rfl ?_ | refine SOpt.no rfl ?_ | refine SWrap.w64 (by omega) (by omega) ?_ | refine SIf.dt (by omega) ?_ | refine SIf.df (by omega) ?_ | refine SIf.nt (by omega) ?_ | refine SIf.nf (by omega) ?_ | refine SChk.d (by omega) ?_ | refine SChk.ix (by omega) (by omega) ?_ | refine SChk.d3 (by omega) (by omega) (by omega) ?_) <;> (conv => whnf)))
  refine ⟨hb.frame rfl fun v h' hv => ?_⟩
  subst hv
  refine ⟨rfl, ?_⟩
  ((conv => whnf); repeat ((first | refine SIf.ff rfl ?_ | refine SIf.tt rfl ?_ | refine SOpt.of rfl ?_ | refine SChk.mk rfl ?_ | refine SSame.mk rfl ?_ | refine SEx.of rfl ?_ | refine SOpt.no rfl ?_ | refine SWrap.w64 (by omega) (by omega) ?_ | refine SIf.dt (by omega) ?_ | refine SIf.df (by omega) ?_ | refine SIf.nt (by omega) ?_ | refine SIf.nf (by omega) ?_ | refine SChk.d (by omega) ?_ | refine SChk.ix (by omega) (by omega) ?_ | refine SChk.d3 (by omega) (by omega) (by omega) ?_) <;> (conv => whnf)))
  refine SCall.mk (Pure.state (hs.cut hG) rfl fun w hw => ?_)
  have hwo := hw.ok hs
  have hn6 := hw.nodes.len
  have hlm : (w.nodes.map nodeR).length = w.nodes.length := List.length_map _
  ((conv => whnf); repeat ((first | refine SIf.ff rfl ?_ | refine SIf.tt rfl ?_ | refine SOpt.of rfl ?_ | refine SChk.mk rfl ?_ | refine SSame.mk rfl ?_ | refine SEx.of rfl ?_ | refine SOpt.no rfl ?_ | refine SWrap.w64 (by omega) (by omega) ?_ | refine SIf.dt (by omega) ?_ | refine SIf.df (by omega) ?_ | refine SIf.nt (by omega) ?_ | refine SIf.nf (by omega) ?_ | refine SChk.d (by omega) ?_ | refine SChk.ix (by omega) (by omega) ?_ | refine SChk.d3 (by omega) (by omega) (by omega) ?_) <;> (conv => whnf)))
  refine SLoopZ.by (fun q fr st => ∃ i : Nat, i ≤ w.nodes.length ∧ q = w.nodes.length - i ∧
      fr = [(17, .i .i64 i), (16, .i .i64 (w.nodes.map nodeR).length), (15, .sl none 6 (w.nodes.map nodeR)), (3, .p (.l 1) 0), (2, .p (.l 0) 0)] ∧
      st = ⟨noG, ⟨2, [(1, .cs (podR p)), (0, .cs [.sl none 6 (w.nodes.map nodeR), .sl none 16 (w.pods.map podR)])]⟩⟩)
    w.nodes.length ⟨_, _, ?_, 0, Nat.zero_le _, rfl, rfl, rfl⟩ ?_
  · exact telL [0, 1] rfl (by decide) (by ((repeat (first | exact trivial | refine ⟨⟨Nat.le_of_ble_eq_true rfl, rfl, _, rfl, by first | exact trivial | exact ceL_flat rfl | exact ⟨rfl, ceLL_map (fun _ => rfl) _⟩ | exact (by ((repeat (first | exact trivial | refine ⟨by first | exact ce_flat rfl | exact .nil | exact .tok | exact .ren rfl (Nat.le_of_ble_eq_true rfl) | exact .rows (by ((repeat (first | exact .nil | refine .cons (by ((repeat (first | exact .nil | refine .cons (by first | exact .refl _ | exact .nil _) ?_)); first | done | fail)) ?_)); first | done | fail)), ?_⟩)); first | done | fail))⟩, ?_⟩)); first | done | fail)) (by repeat (first | exact FrC.nil | refine FrC.cons (by first | exact ce2_free rfl | exact ce2_p rfl (Nat.le_of_ble_eq_true rfl) | exact ce2_tok rfl (Nat.le_of_ble_eq_true rfl) | exact ce2_untok | exact ce2_nil) ?_))
  rintro q fr st ⟨i, hi, rfl, rfl, rfl⟩ R hR
  (conv => whnf)
  refine SIf.ds (fun hlt => ?_) (fun hge => ?_)
  · have hi' : i < w.nodes.length := by omega
    have he := List.getElem?_eq_getElem hi'
    have hm := List.getElem_mem hi'
    generalize w.nodes[i] = e at he hm
    have hn := hwo.node e hm
    have a0 := feas_ok hG w p e.name hwo hp.1 hw.small
    rw [hw.each p hm] at a0
    have a1 := room_ok hG w p e hwo hp.1.req
    have a2 := ports_ok hG w p e hwo hp.1.ports
    have a3 := wants_ok hG p e hp.1.toOk hn
    have a4 := borne_ok hG p e hp.1.toOk hn
    have a5 := apart_ok hG w p e.name hwo hp.1.toOk
    have a6 := even_ok hG w p e.name hwo hp.1.toOk
    simp only [eachD] at a0
    generalize roomD w p e = b1 at a0 a1
    generalize portsD w p e = b2 at a0 a2
    generalize wantsD p e = b3 at a0 a3
    generalize borneD p e = b4 at a0 a4
    generalize apartD w p e.name = b5 at a0 a5
    generalize evenD w p e.name = b6 at a0 a6
    cases hpn : (p.node == [])
    · rw [hpn] at a0
      ((conv => whnf); repeat ((first | refine SIf.ff hpn ?_ | refine SCall.app (Pure.go a0 rfl) ?_ | refine SIf.ff hpn ?_ | refine SEx.of (map_get' (by omega) he) ?_ | refine SIf.ff rfl ?_ | refine SIf.tt rfl ?_ | refine SOpt.of rfl ?_ | refine SChk.mk rfl ?_ | refine SSame.mk rfl ?_ | refine SEx.of rfl ?_ | refine SOpt.no rfl ?_ | refine SWrap.w64 (by omega) (by omega) ?_ | refine SIf.dt (by omega) ?_ | refine SIf.df (by omega) ?_ | refine SIf.nt (by omega) ?_ | refine SIf.nf (by omega) ?_ | refine SChk.d (by omega) ?_ | refine SChk.ix (by omega) (by omega) ?_ | refine SChk.d3 (by omega) (by omega) (by omega) ?_) <;> (conv => whnf)))
      refine hR (w.nodes.length - (i + 1)) _ _ (by omega) ⟨_, _, ?_, i + 1, by omega, rfl, rfl, rfl⟩
      exact telL [0, 1] rfl (by decide) (by ((repeat (first | exact trivial | refine ⟨⟨Nat.le_of_ble_eq_true rfl, rfl, _, rfl, by first | exact trivial | exact ceL_flat rfl | exact ⟨rfl, ceLL_map (fun _ => rfl) _⟩ | exact (by ((repeat (first | exact trivial | refine ⟨by first | exact ce_flat rfl | exact .nil | exact .tok | exact .ren rfl (Nat.le_of_ble_eq_true rfl) | exact .rows (by ((repeat (first | exact .nil | refine .cons (by ((repeat (first | exact .nil | refine .cons (by first | exact .refl _ | exact .nil _) ?_)); first | done | fail)) ?_)); first | done | fail)), ?_⟩)); first | done | fail))⟩, ?_⟩)); first | done | fail)) (by repeat (first | exact FrC.nil | refine FrC.cons (by first | exact ce2_free rfl | exact ce2_p rfl (Nat.le_of_ble_eq_true rfl) | exact ce2_tok rfl (Nat.le_of_ble_eq_true rfl) | exact ce2_untok | exact ce2_nil) ?_))
    · rw [hpn] at a0
      rcases six b1 b2 b3 b4 b5 with rfl | ⟨rfl, rfl⟩ | ⟨rfl, rfl, rfl⟩ | ⟨rfl, rfl, rfl, rfl⟩ | ⟨rfl, rfl, rfl, rfl, rfl⟩ | ⟨rfl, rfl, rfl, rfl, rfl⟩
      all_goals ((conv => whnf); repeat ((first | refine SIf.tt hpn ?_ | refine SCall.app (Pure.go a0 rfl) ?_ | refine SCall.app (Pure.go a1 rfl) ?_ | refine SCall.app (Pure.go a2 rfl) ?_ | refine SCall.app (Pure.go a3 rfl) ?_ | refine SCall.app (Pure.go a4 rfl) ?_ | refine SCall.app (Pure.go a5 rfl) ?_ | refine SCall.app (Pure.go a6 rfl) ?_ | refine SIf.ff (nbxx _) ?_ | refine SEx.of (map_get' (by omega) he) ?_ | refine SIf.ff rfl ?_ | refine SIf.tt rfl ?_ | refine SOpt.of rfl ?_ | refine SChk.mk rfl ?_ | refine SSame.mk rfl ?_ | refine SEx.of rfl ?_ | refine SOpt.no rfl ?_ | refine SWrap.w64 (by omega) (by omega) ?_ | refine SIf.dt (by omega) ?_ | refine SIf.df (by omega) ?_ | refine SIf.nt (by omega) ?_ | refine SIf.nf (by omega) ?_ | refine SChk.d (by omega) ?_ | refine SChk.ix (by omega) (by omega) ?_ | refine SChk.d3 (by omega) (by omega) (by omega) ?_) <;> (conv => whnf)))
      all_goals
        refine hR (w.nodes.length - (i + 1)) _ _ (by omega) ⟨_, _, ?_, i + 1, by omega, rfl, rfl, rfl⟩
        exact telL [0, 1] rfl (by decide) (by ((repeat (first | exact trivial | refine ⟨⟨Nat.le_of_ble_eq_true rfl, rfl, _, rfl, by first | exact trivial | exact ceL_flat rfl | exact ⟨rfl, ceLL_map (fun _ => rfl) _⟩ | exact (by ((repeat (first | exact trivial | refine ⟨by first | exact ce_flat rfl | exact .nil | exact .tok | exact .ren rfl (Nat.le_of_ble_eq_true rfl) | exact .rows (by ((repeat (first | exact .nil | refine .cons (by ((repeat (first | exact .nil | refine .cons (by first | exact .refl _ | exact .nil _) ?_)); first | done | fail)) ?_)); first | done | fail)), ?_⟩)); first | done | fail))⟩, ?_⟩)); first | done | fail)) (by repeat (first | exact FrC.nil | refine FrC.cons (by first | exact ce2_free rfl | exact ce2_p rfl (Nat.le_of_ble_eq_true rfl) | exact ce2_tok rfl (Nat.le_of_ble_eq_true rfl) | exact ce2_untok | exact ce2_nil) ?_))
  · have a0 := feas_ok hG w p noneS hwo hp.1 hw.small
    rw [hw.none p] at a0
    ((conv => whnf); repeat ((first | refine SCall.app (Pure.go a0 rfl) ?_ | refine SIf.ff rfl ?_ | refine SIf.tt rfl ?_ | refine SOpt.of rfl ?_ | refine SChk.mk rfl ?_ | refine SSame.mk rfl ?_ | refine SEx.of rfl ?_ | refine SOpt.no rfl ?_ | refine SWrap.w64 (by omega) (by omega) ?_ | refine SIf.dt (by omega) ?_ | refine SIf.df (by omega) ?_ | refine SIf.nt (by omega) ?_ | refine SIf.nf (by omega) ?_ | refine SChk.d (by omega) ?_ | refine SChk.ix (by omega) (by omega) ?_ | refine SChk.d3 (by omega) (by omega) (by omega) ?_) <;> (conv => whnf)))
    rfl
end
end Go.Eng
