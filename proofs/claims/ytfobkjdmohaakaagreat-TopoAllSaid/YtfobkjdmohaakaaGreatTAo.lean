/-
TopoAll, as the abstract run has it.
-/
import Derived.Test.YtfobkjdmohaakaaGreatLaw0
import Derived.Test.YtfobkjdmohaakaaGreatFitF
namespace Go.Eng
open Go
section
variable {P : Program} (hG : FnsOk P AF.fns.get)
include hG
set_option maxHeartbeats 4000000 in
set_option maxRecDepth 10000 in
theorem topoAll_ok (hb : ACall P 21 [] noG (fun r _ => r = .b true)) (s : StD) (p : PodD) (key val a b : Str) (ts : List TermD) (hs : s.arg) (hp : p.fit ∧ p.sok) (hts : TermsOk ts) :
    ACall P 11 [stV s, .agg (podR p), .s key, .s val, .s a, .s b, .sl none 3 (ts.map termR)] noG (fun r _ => r = .b true) := by
  have htm : (ts.map termR).length = ts.length := List.length_map _
  have htl := hts.len
  unfold LenOk at htl
  refine fn_sz (hG _ AF.f11 rfl) rfl ?_
  ((conv => whnf); repeat ((first | refine SIf.ff rfl ?_ | refine SIf.tt rfl ?_ | refine SOpt.of rfl ?_ | refine SChk.mk rfl ?_ | refine SSame.mk rfl ?_ | refine SEx.of rfl ?_ | refine SOpt.no rfl ?_ | refine SWrap.w64 (by omega) (by omega) ?_ | refine SIf.dt (by omega) ?_ | refine SIf.df (by omega) ?_ | refine SIf.nt (by omega) ?_ | refine SIf.nf (by omega) ?_ | refine SChk.d (by omega) ?_ | refine SChk.ix (by omega) (by omega) ?_ | refine SChk.d3 (by omega) (by omega) (by omega) ?_) <;> (conv => whnf)))
  refine ⟨hb.frame rfl fun v h' hv => ?_⟩
  subst hv
  refine ⟨rfl, ?_⟩
  obtain ⟨m, hm⟩ : ∃ m : Int, minI (((ts.map termR).length : Nat) : Int) 4 = m := ⟨_, rfl⟩
  have hm0 : 0 ≤ m ∧ m ≤ ts.length := by rw [← hm]; unfold minI; split <;> omega
  obtain ⟨tt, htt⟩ : ∃ tt, tt = ts.take m.toNat := ⟨_, rfl⟩
  have hT : ((ts.map termR).take m.toNat).drop (Int.toNat 0) = tt.map termR := by rw [htt, ← List.map_take]; rfl
  have hto : TermsOk tt := ⟨by rw [htt]; unfold LenOk; rw [List.length_take]; omega, fun x hx => hts.each x (List.mem_of_mem_take (htt ▸ hx))⟩
  ((conv => whnf); repeat ((first | refine SOpt.of (mn2 (z := m) hm) ?_ | refine SEx.of (congrArg some hT) ?_ | refine SIf.ff rfl ?_ | refine SIf.tt rfl ?_ | refine SOpt.of rfl ?_ | refine SChk.mk rfl ?_ | refine SSame.mk rfl ?_ | refine SEx.of rfl ?_ | refine SOpt.no rfl ?_ | refine SWrap.w64 (by omega) (by omega) ?_ | refine SIf.dt (by omega) ?_ | refine SIf.df (by omega) ?_ | refine SIf.nt (by omega) ?_ | refine SIf.nf (by omega) ?_ | refine SChk.d (by omega) ?_ | refine SChk.ix (by omega) (by omega) ?_ | refine SChk.d3 (by omega) (by omega) (by omega) ?_) <;> (conv => whnf)))
  refine SCall.mk (Pure.state (hs.cut hG) rfl fun w hw => ?_)
  have hwo := hw.ok hs
  have hpo := hp.1.toOk
  have a1 := same_ok hG w key a b hwo
  have a2 := rsame_ok hG w key a b hwo
  have b1 := count_ok hG w key val tt hwo hto
  have b2 := rcount_ok hG w key val tt hwo hto
  ((conv => whnf); repeat ((first | refine SOpt.of (mn2 (z := m) hm) ?_ | refine SEx.of (congrArg some hT) ?_ | refine SSame.mk (congrArg (V.sl none 3) hT.symm) ?_ | refine SCall.app (Pure.go a1 rfl) ?_ | refine SCall.app (Pure.go a2 rfl) ?_ | refine SCall.app (Pure.go b1 rfl) ?_ | refine SCall.app (Pure.go b2 rfl) ?_ | refine SIf.ff (nbxx _) ?_ | refine SIf.ff (nixx _) ?_ | refine SIf.ff rfl ?_ | refine SIf.tt rfl ?_ | refine SOpt.of rfl ?_ | refine SChk.mk rfl ?_ | refine SSame.mk rfl ?_ | refine SEx.of rfl ?_ | refine SOpt.no rfl ?_ | refine SWrap.w64 (by omega) (by omega) ?_ | refine SIf.dt (by omega) ?_ | refine SIf.df (by omega) ?_ | refine SIf.nt (by omega) ?_ | refine SIf.nf (by omega) ?_ | refine SChk.d (by omega) ?_ | refine SChk.ix (by omega) (by omega) ?_ | refine SChk.d3 (by omega) (by omega) (by omega) ?_) <;> (conv => whnf)))
  have hnm : (w.nodes.map nodeR).length = w.nodes.length := List.length_map _
  have hn6 := hw.nodes.len
  refine SLoopZ.by (fun q fr st => ∃ (i : Nat) (es : List Str), i ≤ w.nodes.length ∧ q = w.nodes.length - i ∧ es.length ≤ 2 + i ∧
      fr = [(60, .i .i64 i), (59, .i .i64 (w.nodes.map nodeR).length), (16, accV true 2 1 (es.map strR)), (8, .p (.l 1) 0), (7, .p (.l 0) 0)] ∧
      st = accS true 2 [(1, .cs (podR p)), (0, .cs [.sl none 6 (w.nodes.map nodeR), .sl none 16 (w.pods.map podR)])])
    w.nodes.length ⟨_, _, ?_, 0, [a, b], Nat.zero_le _, rfl, by simp, rfl, rfl⟩ ?_
  · exact telL [0, 1, 2] rfl (by decide) (by ((repeat (first | exact trivial | refine ⟨⟨Nat.le_of_ble_eq_true rfl, rfl, _, rfl, by first | exact trivial | exact ceL_flat rfl | exact ⟨rfl, ceLL_map (fun _ => rfl) _⟩ | exact (by ((repeat (first | exact trivial | refine ⟨by first | exact ce_flat rfl | exact .nil | exact .tok | exact .ren rfl (Nat.le_of_ble_eq_true rfl) | exact .rows (by ((repeat (first | exact .nil | refine .cons (by ((repeat (first | exact .nil | refine .cons (by first | exact .refl _ | exact .nil _) ?_)); first | done | fail)) ?_)); first | done | fail)), ?_⟩)); first | done | fail))⟩, ?_⟩)); first | done | fail)) (by repeat (first | exact FrC.nil | refine FrC.cons (by first | exact ce2_free rfl | exact ce2_p rfl (Nat.le_of_ble_eq_true rfl) | exact ce2_tok rfl (Nat.le_of_ble_eq_true rfl) | exact ce2_untok | exact ce2_nil) ?_))
  rintro q fr st ⟨i, es, hi, rfl, hes, rfl, rfl⟩ R hR
  have hem : (es.map strR).length = es.length := List.length_map _
  (conv => whnf)
  refine SIf.ds (fun hlt => ?_) (fun hge => ?_)
  · have hi' : i < w.nodes.length := by omega
    have he := List.getElem?_eq_getElem hi'
    generalize w.nodes[i] = e at he
    have hint : es.map strR ++ [strR e.name] = (es ++ [e.name]).map strR := by rw [List.map_append]; rfl
    ((conv => whnf); repeat ((first | refine SEx.of (congrArg some hint) ?_ | refine SChk.mk (by simp [roomOk]; omega) ?_ | refine SEx.of (map_get' (by omega) he) ?_ | refine SIf.ff rfl ?_ | refine SIf.tt rfl ?_ | refine SOpt.of rfl ?_ | refine SChk.mk rfl ?_ | refine SSame.mk rfl ?_ | refine SEx.of rfl ?_ | refine SOpt.no rfl ?_ | refine SWrap.w64 (by omega) (by omega) ?_ | refine SIf.dt (by omega) ?_ | refine SIf.df (by omega) ?_ | refine SIf.nt (by omega) ?_ | refine SIf.nf (by omega) ?_ | refine SChk.d (by omega) ?_ | refine SChk.ix (by omega) (by omega) ?_ | refine SChk.d3 (by omega) (by omega) (by omega) ?_) <;> (conv => whnf)))
    refine hR (w.nodes.length - (i + 1)) _ _ (by omega) ⟨_, _, ?_, i + 1, es ++ [e.name], by omega, rfl, by simp; omega, rfl, rfl⟩
    exact telL [0, 1, 4] rfl (by decide) (by ((repeat (first | exact trivial | refine ⟨⟨Nat.le_of_ble_eq_true rfl, rfl, _, rfl, by first | exact trivial | exact ceL_flat rfl | exact ⟨rfl, ceLL_map (fun _ => rfl) _⟩ | exact (by ((repeat (first | exact trivial | refine ⟨by first | exact ce_flat rfl | exact .nil | exact .tok | exact .ren rfl (Nat.le_of_ble_eq_true rfl) | exact .rows (by ((repeat (first | exact .nil | refine .cons (by ((repeat (first | exact .nil | refine .cons (by first | exact .refl _ | exact .nil _) ?_)); first | done | fail)) ?_)); first | done | fail)), ?_⟩)); first | done | fail))⟩, ?_⟩)); first | done | fail)) (by repeat (first | exact FrC.nil | refine FrC.cons (by first | exact ce2_free rfl | exact ce2_p rfl (Nat.le_of_ble_eq_true rfl) | exact ce2_tok rfl (Nat.le_of_ble_eq_true rfl) | exact ce2_untok | exact ce2_nil) ?_))
  · clear hR
    ((conv => whnf); repeat ((first | refine SIf.ff rfl ?_ | refine SIf.tt rfl ?_ | refine SOpt.of rfl ?_ | refine SChk.mk rfl ?_ | refine SSame.mk rfl ?_ | refine SEx.of rfl ?_ | refine SOpt.no rfl ?_ | refine SWrap.w64 (by omega) (by omega) ?_ | refine SIf.dt (by omega) ?_ | refine SIf.df (by omega) ?_ | refine SIf.nt (by omega) ?_ | refine SIf.nf (by omega) ?_ | refine SChk.d (by omega) ?_ | refine SChk.ix (by omega) (by omega) ?_ | refine SChk.d3 (by omega) (by omega) (by omega) ?_) <;> (conv => whnf)))
    refine SLoopZ.by (fun q fr st => ∃ i : Nat, i ≤ es.length ∧ q = es.length - i ∧
        fr = [(75, .i .i64 i), (74, .i .i64 (es.map strR).length), (73, .sl none 1 (es.map strR)), (8, .p (.l 1) 0), (7, .p (.l 0) 0)] ∧
        st = ⟨noG, ⟨2, [(1, .cs (podR p)), (0, .cs [.sl none 6 (w.nodes.map nodeR), .sl none 16 (w.pods.map podR)])]⟩⟩)
      es.length ⟨_, _, ?_, 0, Nat.zero_le _, rfl, rfl, rfl⟩ ?_
    · exact telL [0, 1] rfl (by decide) (by ((repeat (first | exact trivial | refine ⟨⟨Nat.le_of_ble_eq_true rfl, rfl, _, rfl, by first | exact trivial | exact ceL_flat rfl | exact ⟨rfl, ceLL_map (fun _ => rfl) _⟩ | exact (by ((repeat (first | exact trivial | refine ⟨by first | exact ce_flat rfl | exact .nil | exact .tok | exact .ren rfl (Nat.le_of_ble_eq_true rfl) | exact .rows (by ((repeat (first | exact .nil | refine .cons (by ((repeat (first | exact .nil | refine .cons (by first | exact .refl _ | exact .nil _) ?_)); first | done | fail)) ?_)); first | done | fail)), ?_⟩)); first | done | fail))⟩, ?_⟩)); first | done | fail)) (by repeat (first | exact FrC.nil | refine FrC.cons (by first | exact ce2_free rfl | exact ce2_p rfl (Nat.le_of_ble_eq_true rfl) | exact ce2_tok rfl (Nat.le_of_ble_eq_true rfl) | exact ce2_untok | exact ce2_nil) ?_))
    have hes8 : es.length ≤ 8 := by omega
    clear hi hge hes hem
    rintro q fr st ⟨j, hj, rfl, rfl, rfl⟩ R hR
    have hem : (es.map strR).length = es.length := List.length_map _
    (conv => whnf)
    refine SIf.ds (fun hlt => ?_) (fun hge => ?_)
    · have hj' : j < es.length := by omega
      have he := List.getElem?_eq_getElem hj'
      generalize es[j] = e at he
      have c1 := apart_ok hG w p e hwo hpo
      have c2 := rapart_ok hG w p e hwo hpo
      have d1 := even_ok hG w p e hwo hpo
      have d2 := reven_ok hG w p e hwo hpo
      ((conv => whnf); repeat ((first | refine SCall.app (Pure.go c1 rfl) ?_ | refine SCall.app (Pure.go c2 rfl) ?_ | refine SCall.app (Pure.go d1 rfl) ?_ | refine SCall.app (Pure.go d2 rfl) ?_ | refine SIf.ff (nbxx _) ?_ | refine SEx.of (map_get' (by omega) he) ?_ | refine SIf.ff rfl ?_ | refine SIf.tt rfl ?_ | refine SOpt.of rfl ?_ | refine SChk.mk rfl ?_ | refine SSame.mk rfl ?_ | refine SEx.of rfl ?_ | refine SOpt.no rfl ?_ | refine SWrap.w64 (by omega) (by omega) ?_ | refine SIf.dt (by omega) ?_ | refine SIf.df (by omega) ?_ | refine SIf.nt (by omega) ?_ | refine SIf.nf (by omega) ?_ | refine SChk.d (by omega) ?_ | refine SChk.ix (by omega) (by omega) ?_ | refine SChk.d3 (by omega) (by omega) (by omega) ?_) <;> (conv => whnf)))
      refine hR (es.length - (j + 1)) _ _ (by omega) ⟨_, _, ?_, j + 1, by omega, rfl, rfl, rfl⟩
      exact telL [0, 1] rfl (by decide) (by ((repeat (first | exact trivial | refine ⟨⟨Nat.le_of_ble_eq_true rfl, rfl, _, rfl, by first | exact trivial | exact ceL_flat rfl | exact ⟨rfl, ceLL_map (fun _ => rfl) _⟩ | exact (by ((repeat (first | exact trivial | refine ⟨by first | exact ce_flat rfl | exact .nil | exact .tok | exact .ren rfl (Nat.le_of_ble_eq_true rfl) | exact .rows (by ((repeat (first | exact .nil | refine .cons (by ((repeat (first | exact .nil | refine .cons (by first | exact .refl _ | exact .nil _) ?_)); first | done | fail)) ?_)); first | done | fail)), ?_⟩)); first | done | fail))⟩, ?_⟩)); first | done | fail)) (by repeat (first | exact FrC.nil | refine FrC.cons (by first | exact ce2_free rfl | exact ce2_p rfl (Nat.le_of_ble_eq_true rfl) | exact ce2_tok rfl (Nat.le_of_ble_eq_true rfl) | exact ce2_untok | exact ce2_nil) ?_))
    · ((conv => whnf); repeat ((first | refine SIf.ff rfl ?_ | refine SIf.tt rfl ?_ | refine SOpt.of rfl ?_ | refine SChk.mk rfl ?_ | refine SSame.mk rfl ?_ | refine SEx.of rfl ?_ | refine SOpt.no rfl ?_ | refine SWrap.w64 (by omega) (by omega) ?_ | refine SIf.dt (by omega) ?_ | refine SIf.df (by omega) ?_ | refine SIf.nt (by omega) ?_ | refine SIf.nf (by omega) ?_ | refine SChk.d (by omega) ?_ | refine SChk.ix (by omega) (by omega) ?_ | refine SChk.d3 (by omega) (by omega) (by omega) ?_) <;> (conv => whnf)))
end
end Go.Eng
