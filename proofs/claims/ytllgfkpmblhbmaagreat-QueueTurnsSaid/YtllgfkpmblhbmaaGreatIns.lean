/-
slices.Insert at pods: one pod, ahead of the end, where there is room: in place.
-/
import Derived.Test.YtllgfkpmblhbmaaGreatEngB
import Derived.Test.YtllgfkpmblhbmaaGreatRows
import Derived.Shelf.RegionOpenPlain
import Derived.WalkKit
import Derived.Lib.Walk
import Derived.Lib.SliceRun
import Derived.Lib.JoinLaws
import Derived.Lib.AppendZerosOnto
import Derived.Lib.Overlaps
import Derived.Laws.Externs
import Derived.Laws.IdiomCopy
import Derived.Laws.NewBlocks
import Derived.Shelf.Spec.SlicesInsert
import Derived.Test.YtllgfkpmblhbmaaGreatSync
import Derived.Test.YtllgfkpmblhbmaaGreatWiB
set_option linter.unusedVariables false
set_option linter.unusedSimpArgs false
namespace Go.Proofs.YtllgfkpmblhbmaaGreat
open Go.Shelf Go.RowKit Go.Lib Go.Eng
theorem there_sub {w : World} {b o n o' n' : Nat} (h : w.there b o n) (h1 : o ≤ o') (h2 : o' + n' ≤ o + n) : w.there b o' n' := fun j hj => by
  have := h (o' - o + j) (by omega)
  rwa [show o + (o' - o + j) = o' + j by omega] at this
theorem there_set {w : World} {b o n p : Nat} {vs : List Value} (h : w.there b o n) (hv : w.there b p vs.length) : (w.setCells b p vs).there b o n := fun j hj => by
  refine ⟨?_, by rw [World.frozen?_setCells]; exact (h j hj).2⟩
  by_cases hin : p ≤ o + j ∧ o + j < p + vs.length
  · have := World.cell?_setCells_in b vs p w (fun j hj => (hv j hj).1) (o + j - p) (by omega)
    rw [show p + (o + j - p) = o + j by omega] at this
    rw [this]; rfl
  · rw [World.cell?_setCells_out b vs p w ⟨b, o + j, none⟩ (fun _ _ => by show o + j < p ∨ p + vs.length ≤ o + j; omega)]
    exact (h j hj).1
set_option maxHeartbeats 4000000 in
set_option maxRecDepth 100000 in
theorem ins_shift (b off n c i vb voff vc : Nat) (cs vs : List Value) (w : World) (hi : i < n) (hroom : n + 1 ≤ c) (hn63 : n ≤ 140737488355328) (hvb : vb ≠ b) (hcl : cs.length = n * 16) (hvl : vs.length = 16)
    (hcs : ∀ j v, cs[j]? = some v → w.cell? ⟨b, off + j, none⟩ = some v) (hth : w.there b off ((n + 1) * 16)) (hvs : ∀ j v, vs[j]? = some v → w.cell? ⟨vb, voff + j, none⟩ = some v) (h1c : ∀ v ∈ cs, v.oneCell' = true) (h1v : ∀ v ∈ vs, v.oneCell' = true)
    (tA tB : TypeId) (kA kB : Nat) (hsa : w.shape? vb = some (tA, kA)) (hsb : w.shape? b = some (tB, kB)) (hkB : kB ≠ 0) (hfa : w.frozen? ⟨vb, voff, none⟩ = false) (hfe : w.frozen? ⟨vb, kA, none⟩ = false) :
    Calls Tryz.prog 64 #[.slice (some ⟨b, off, none⟩) n c, .int .i64 i, .slice (some ⟨vb, voff, none⟩) 1 vc] w fun e w' =>
      e = .returned (.slice (some ⟨b, off, none⟩) (n + 1) c) ∧ w' = (w.drew.setCells b (off + (i + 1) * 16) (cs.drop (i * 16))).setCells b (off + i * 16) vs := by
  have hsz : (Tryz.prog.info? 33).map (·.size) = some 16 := by kernel_rfl
  have hz2 : ¬ ((i : Int) = (n : Int)) := by omega
  have hov : ∀ lb cb, (callFunc 113 #[.slice (some ⟨vb, voff, none⟩) 1 vc, .slice (some ⟨b, off + (i + 1) * 16, none⟩) lb cb]).run Tryz.prog w = .ok (.value (.bool false)) w := fun lb cb => by
    rw [run_callFunc_extern Tryz.func113 (by kernel_rfl) (by kernel_rfl) (by kernel_rfl) (e := Extern.SlicesOverlaps.overlaps #[23, 23] #[4]) (by kernel_rfl),
      Lib.run_overlaps_apart w 23 4 33 Tryz.underlying23 16 Tryz.sizeOf33 ⟨vb, voff, none⟩ ⟨b, off + (i + 1) * 16, none⟩ 1 vc lb cb hvb tA tB kA kB hsa hsb hkB hfa hfe]
    rfl
  have hdl : (cs.drop (i * 16)).length = (n - i) * 16 := by rw [List.length_drop, hcl, Nat.sub_mul]
  have mixed : Tryz.prog.follows .mixedOrders = true := by kernel_rfl
  have hw1 : IntKind.i64.wrap ((i : Int) + 1) = (i : Int) + 1 := by rw [IntKind.wrap_i64]; omega
  have hb1 : (0 : Int) ≤ (i : Int) + 1 := by omega
  have hin : i ≤ n := by omega
  have htn : ((i : Int) + 1).toNat = i + 1 := by omega
  have hb2 : ¬ (c = i + 1) := by omega
  have hb3 : (i : Int) ≤ (n : Int) + 1 := by omega
  have hb4 : ¬ (c = i) := by omega
  have hm1 : Nat.min (n + 1 - i) (n - i) = n - i := by simp only [Nat.min_def]; split <;> omega
  have hm2 : Nat.min 1 (n + 1 - i) = 1 := by simp only [Nat.min_def]; split <;> omega
  have hdth : w.drew.there b (off + (i + 1) * 16) (cs.drop (i * 16)).length := there_sub (o := off) (n := (n + 1) * 16) hth (by omega) (by rw [hdl]; omega)
  have hcp1 : ∀ ty dc sc, (Builtin.copy_ #[23, 23] ty #[.slice (some ⟨b, off + (i + 1) * 16, none⟩) (n - i) dc, .slice (some ⟨b, off + i * 16, none⟩) (n + 1 - i) sc]).run Tryz.prog w.drew = .ok (goInt ((n - i : Nat) : Int)) (w.drew.setCells b (off + (i + 1) * 16) (cs.drop (i * 16))) := fun ty dc sc => by
    have h := run_copy_k (P := Tryz.prog) (w := w.drew) (dT := 23) (sT := 23) (ty := ty) (elem := 33) (b := b) (o := off + (i + 1) * 16) (dLen := n - i) (dCap := dc) (n := n + 1 - i) (sz := 16) (x := .slice (some ⟨b, off + i * 16, none⟩) (n + 1 - i) sc) (cs := cs.drop (i * 16)) Tryz.underlying23 hsz (by simp [Builtin.lenOf])
      (by
        rw [hm1]
        exact run_firstCells_some w.drew 16 (n - i) ⟨b, off + i * 16, none⟩ (n + 1 - i) sc (cs.drop (i * 16)) hdl (fun j v hj => by
          rw [Addr.add_mid, Nat.add_assoc]
          exact hcs (i * 16 + j) v (by rwa [List.getElem?_drop] at hj)))
      hdth (fun v hv => h1c v (List.mem_of_mem_drop hv))
    rwa [hm1] at h
  obtain ⟨W1, hW1⟩ : ∃ W1, W1 = w.drew.setCells b (off + (i + 1) * 16) (cs.drop (i * 16)) := ⟨_, rfl⟩
  have hcp2 : ∀ (W : World), (∀ x, W.cell? x = W1.cell? x) → (∀ x, W.frozen? x = W1.frozen? x) → ∀ ty dc, (Builtin.copy_ #[23, 23] ty #[.slice (some ⟨b, off + i * 16, none⟩) (n + 1 - i) dc, .slice (some ⟨vb, voff, none⟩) 1 vc]).run Tryz.prog W = .ok (goInt 1) (W.setCells b (off + i * 16) vs) := fun W hWc hWf ty dc => by
    have hth1 : W1.there b (off + i * 16) vs.length := by
      rw [hW1, hvl]
      exact there_set (there_sub (o := off) (n := (n + 1) * 16) hth (by omega) (by omega)) hdth
    have h := run_copy_k (P := Tryz.prog) (w := W) (dT := 23) (sT := 23) (ty := ty) (elem := 33) (b := b) (o := off + i * 16) (dLen := n + 1 - i) (dCap := dc) (n := 1) (sz := 16) (x := .slice (some ⟨vb, voff, none⟩) 1 vc) (cs := vs) Tryz.underlying23 hsz (by simp [Builtin.lenOf])
      (by
        rw [hm2]
        exact run_firstCells_some W 16 1 ⟨vb, voff, none⟩ 1 vc vs (by omega) (fun j v hj => by
          rw [Addr.add_mid, hWc, hW1, World.cell?_setCells_out b _ _ _ _ (fun h _ => absurd h hvb)]
          exact hvs j v hj))
      (fun j hj => by
        rw [hWc, hWf]
        exact hth1 j hj) h1v
    rwa [hm2] at h
  rw [← hW1] at hcp1
  go_enter Tryz.func64, Tryz.ntmps64
  go_wp2_with (simp only [hov])
  go_region_law_o (refine step_copy_runI rfl _ _ 23 23 rfl _ _ (by simp [Act.eval, Act.put]) (by simp [Act.eval, Act.put]) (hcp1 _ _ _) ?_)
  go_wp2_with (at_builtin; refine wpList_copy_runI _ rfl _ _ 23 23 rfl _ _ rfl rfl (hcp2 _ (fun _ => rfl) (fun _ => rfl) _ _) ?_)
  go_ret
  first | exact ⟨rfl, rfl⟩ | exact ⟨rfl, by rw [hW1]⟩
end Go.Proofs.YtllgfkpmblhbmaaGreat
/-
slices.Insert at pods: one pod, ahead of the end, where there is no room: a new row.
-/
namespace Go.Proofs.YtllgfkpmblhbmaaGreat
open Go.Shelf Go.RowKit Go.Lib Go.Eng
set_option maxHeartbeats 4000000 in
set_option maxRecDepth 100000 in
theorem ins_grow (b off n c i vb voff vc : Nat) (cs vs : List Value) (w : World) (hi : i < n) (hnc : n ≤ c) (hroom : c < n + 1) (hbig : (n + 1) * 248 ≤ 140737488355328) (hcl : cs.length = n * 16) (hvl : vs.length = 16)
    (hcs : ∀ j v, cs[j]? = some v → w.cell? ⟨b, off + j, none⟩ = some v) (hvs : ∀ j v, vs[j]? = some v → w.cell? ⟨vb, voff + j, none⟩ = some v) (h1c : ∀ v ∈ cs, v.oneCell' = true) (h1v : ∀ v ∈ vs, v.oneCell' = true)
    (i0 : TypeInfo) (z : Value) (hi0 : Tryz.prog.info? 33 = some i0) (hz0 : i0.zero = some z) (hzs : i0.size = 16) (hzb : i0.bytes = 248) (hzc : z.cells.size = 16) :
    Calls Tryz.prog 64 #[.slice (some ⟨b, off, none⟩) n c, .int .i64 i, .slice (some ⟨vb, voff, none⟩) 1 vc] w fun e w' =>
      e = .returned (.slice (some ⟨w.heap.size, 0, none⟩) (n + 1) (grownCap w (n + 1) c 33)) ∧
      w' = (((w.alloc (.cells ((cs.take (i * 16)).toArray ++ Builtin.zeroCells z.cells (n + 1 - i) ++ Builtin.zeroCells z.cells (grownCap w (n + 1) c 33 - (n + 1))) 33)).drew.setCells w.heap.size (i * 16) vs).drew).setCells w.heap.size ((i + 1) * 16) (cs.drop (i * 16)) := by
  have mixed : Tryz.prog.follows .mixedOrders = true := by kernel_rfl
  have hsz : (Tryz.prog.info? 33).map (·.size) = some 16 := by rw [hi0]; simp [hzs]
  have hz2 : ¬ ((i : Int) = (n : Int)) := by omega
  have hz3 : (c : Int) < (n : Int) + 1 := by omega
  have hbw : b < w.heap.size := block_lt_of_cell (hcs 0 _ (List.getElem?_eq_getElem (by omega)))
  have hvw : vb < w.heap.size := block_lt_of_cell (hvs 0 _ (List.getElem?_eq_getElem (by omega)))
  have hkk : (n : Int) + 1 - (i : Int) = ((n + 1 - i : Nat) : Int) := by omega
  have hik : i + (n + 1 - i) = n + 1 := by omega
  have htl : (cs.take (i * 16)).length = i * 16 := by rw [List.length_take]; omega
  have hdl : (cs.drop (i * 16)).length = (n - i) * 16 := by rw [List.length_drop, hcl, Nat.sub_mul]
  have hold : (Builtin.firstCells i0.size i (.slice (some ⟨b, off, none⟩) i c)).run Tryz.prog w.drew = .ok (cs.take (i * 16)).toArray w.drew := by
    rw [hzs]
    exact run_firstCells_some w.drew 16 i ⟨b, off, none⟩ i c (cs.take (i * 16)) htl (fun j v hj => by
      rw [Addr.add_mid]
      rw [List.getElem?_take] at hj
      split at hj
      · exact hcs j v hj
      · cases hj)
  have hrz : ∀ ty, (Builtin.append_ #[23, 3] ty #[.slice (some ⟨b, off, none⟩) i c, .int .i64 ((n : Int) + 1 - (i : Int))]).run Tryz.prog w =
      .ok (.slice (some ⟨w.heap.size, 0, none⟩) (n + 1) (grownCap w (n + 1) c 33)) (w.drew.alloc (.cells ((cs.take (i * 16)).toArray ++ Builtin.zeroCells z.cells (n + 1 - i) ++ Builtin.zeroCells z.cells (grownCap w (n + 1) c 33 - (n + 1))) 33)) := fun ty => by
    have h := Lib.run_append_grow_zeros w 23 3 ty 33 i0 z .i64 .i64 Tryz.underlying23 Tryz.underlying3 hi0 hz0 (some ⟨b, off, none⟩) i c (cs.take (i * 16)) hold (n + 1 - i) (by omega) (by omega) (by omega) (by omega) (by rw [hzb]; omega) (by rw [hzb, hik]; exact growslice_fits hroom hbig)
    rw [hik] at h
    rw [hkk]
    exact h
  obtain ⟨G, hG⟩ : ∃ G, G = grownCap w (n + 1) c 33 := ⟨_, rfl⟩
  obtain ⟨ROW, hROW⟩ : ∃ ROW : Array Value, ROW = (cs.take (i * 16)).toArray ++ Builtin.zeroCells z.cells (n + 1 - i) ++ Builtin.zeroCells z.cells (G - (n + 1)) := ⟨_, rfl⟩
  rw [← hG] at hrz ⊢
  rw [← hROW] at hrz ⊢
  have hRl : (n + 1) * 16 ≤ ROW.size := by
    rw [hROW, Array.size_append, Array.size_append, size_zeroCells, hzc, List.size_toArray, htl]
    omega
  obtain ⟨W1, hW1⟩ : ∃ W1, W1 = w.drew.alloc (.cells ROW 33) := ⟨_, rfl⟩
  rw [← hW1] at hrz
  have hNW : W1.there w.heap.size 0 ((n + 1) * 16) := fun j hj => by
    rw [hW1]
    refine ⟨?_, World.frozen?_alloc_at (w := w.drew) ROW _ w.heap.size _ rfl⟩
    rw [World.cell?_alloc_at (w := w.drew) ROW _ w.heap.size _ rfl, Array.getElem?_eq_getElem (by omega)]; rfl
  have hOb : ∀ j v, w.cell? ⟨b, j, none⟩ = some v → W1.cell? ⟨b, j, none⟩ = some v := fun j v h => by rw [hW1, World.cell?_alloc_past (w := w.drew) _ b j hbw]; exact h
  have hOv : ∀ j v, w.cell? ⟨vb, j, none⟩ = some v → W1.cell? ⟨vb, j, none⟩ = some v := fun j v h => by rw [hW1, World.cell?_alloc_past (w := w.drew) _ vb j hvw]; exact h
  have hm2 : Nat.min 1 (n + 1 - i) = 1 := by simp only [Nat.min_def]; split <;> omega
  have hm1 : Nat.min (n - i) (n - i) = n - i := by simp only [Nat.min_def]; split <;> omega
  have hcpA : ∀ (W : World), (∀ x, W.cell? x = W1.cell? x) → (∀ x, W.frozen? x = W1.frozen? x) → ∀ ty dc, (Builtin.copy_ #[23, 23] ty #[.slice (some ⟨w.heap.size, i * 16, none⟩) (n + 1 - i) dc, .slice (some ⟨vb, voff, none⟩) 1 vc]).run Tryz.prog W = .ok (goInt 1) (W.setCells w.heap.size (i * 16) vs) := fun W hWc hWf ty dc => by
    have h := run_copy_k (P := Tryz.prog) (w := W) (dT := 23) (sT := 23) (ty := ty) (elem := 33) (b := w.heap.size) (o := i * 16) (dLen := n + 1 - i) (dCap := dc) (n := 1) (sz := 16) (x := .slice (some ⟨vb, voff, none⟩) 1 vc) (cs := vs) Tryz.underlying23 hsz (by simp [Builtin.lenOf])
      (by
        rw [hm2]
        exact run_firstCells_some W 16 1 ⟨vb, voff, none⟩ 1 vc vs (by omega) (fun j v hj => by
          rw [Addr.add_mid, hWc]
          exact hOv _ v (hvs j v hj)))
      (fun j hj => by
        rw [hWc, hWf]
        exact there_sub hNW (Nat.zero_le _) (by omega) j hj) h1v
    rwa [hm2] at h
  have hGn : n + 1 ≤ G := by rw [hG]; exact grownCap_ge w _ _ _
  have hG63 : G ≤ 9223372036854775807 := by
    have := grownCap_le_maxLen w (n + 1) c 33 (by unfold maxLen; omega)
    rw [← hG] at this
    unfold maxLen at this
    omega
  have hGi : ¬ (G = i) := by omega
  have hGim : ¬ (G = i + 1) := by omega
  have hci : ¬ (c = i) := by omega
  have hbN : b ≠ w.heap.size := by omega
  have hcpB : ∀ (W : World), (∀ x, W.cell? x = (W1.setCells w.heap.size (i * 16) vs).cell? x) → (∀ x, W.frozen? x = (W1.setCells w.heap.size (i * 16) vs).frozen? x) → ∀ ty dc sc, (Builtin.copy_ #[23, 23] ty #[.slice (some ⟨w.heap.size, (i + 1) * 16, none⟩) (n - i) dc, .slice (some ⟨b, off + i * 16, none⟩) (n - i) sc]).run Tryz.prog W = .ok (goInt ((n - i : Nat) : Int)) (W.setCells w.heap.size ((i + 1) * 16) (cs.drop (i * 16))) := fun W hWc hWf ty dc sc => by
    have h := run_copy_k (P := Tryz.prog) (w := W) (dT := 23) (sT := 23) (ty := ty) (elem := 33) (b := w.heap.size) (o := (i + 1) * 16) (dLen := n - i) (dCap := dc) (n := n - i) (sz := 16) (x := .slice (some ⟨b, off + i * 16, none⟩) (n - i) sc) (cs := cs.drop (i * 16)) Tryz.underlying23 hsz (by simp [Builtin.lenOf])
      (by
        rw [hm1]
        exact run_firstCells_some W 16 (n - i) ⟨b, off + i * 16, none⟩ (n - i) sc (cs.drop (i * 16)) hdl (fun j v hj => by
          rw [Addr.add_mid, hWc, World.cell?_setCells_out _ _ _ _ _ (fun h _ => absurd h hbN), Nat.add_assoc]
          exact hOb _ v (hcs (i * 16 + j) v (by rwa [List.getElem?_drop] at hj))))
      (fun j hj => by
        rw [hWc, hWf]
        exact there_set (there_sub (o := 0) (n := (n + 1) * 16) hNW (Nat.zero_le _) (by rw [hdl]; omega)) (there_sub (o := 0) (n := (n + 1) * 16) hNW (Nat.zero_le _) (by omega)) j hj) (fun v hv => h1c v (List.mem_of_mem_drop hv))
    rwa [hm1] at h
  subst hW1
  have hE1 : ∀ x, ((w.alloc (.cells ROW 33)).drew).cell? x = (w.drew.alloc (.cells ROW 33)).cell? x := fun x => rfl
  have hE2 : ∀ x, ((w.alloc (.cells ROW 33)).drew).frozen? x = (w.drew.alloc (.cells ROW 33)).frozen? x := fun x => rfl
  have hF1 : ∀ x, (((w.alloc (.cells ROW 33)).drew.setCells w.heap.size (i * 16) vs).drew).cell? x = ((w.drew.alloc (.cells ROW 33)).setCells w.heap.size (i * 16) vs).cell? x := fun x => rfl
  have hF2 : ∀ x, (((w.alloc (.cells ROW 33)).drew.setCells w.heap.size (i * 16) vs).drew).frozen? x = ((w.drew.alloc (.cells ROW 33)).setCells w.heap.size (i * 16) vs).frozen? x := fun x => rfl
  have hw1 : IntKind.i64.wrap ((i : Int) + 1) = (i : Int) + 1 := by rw [IntKind.wrap_i64]; omega
  have hb1 : (0 : Int) ≤ (i : Int) + 1 := by omega
  have hin : i ≤ n := by omega
  have htn : ((i : Int) + 1).toNat = i + 1 := by omega
  have hb3 : (i : Int) ≤ (n : Int) := by omega
  clear hkk hik hold hROW hG hRl hm1 hm2 htl hdl
  go_enter Tryz.func64, Tryz.ntmps64
  go_wp2_with (first
    | (at_builtin; refine Lib.wpList_append_run _ rfl _ _ _ _ rfl _ _ rfl rfl _ _ (hrz _) ?_)
    | (at_builtin; refine wpList_copy_runI _ rfl _ _ 23 23 rfl _ _ rfl rfl (hcpA _ hE1 hE2 _ _) ?_)
    | (at_builtin; refine wpList_copy_runI _ rfl _ _ 23 23 rfl _ _ rfl rfl (hcpB _ (fun _ => rfl) (fun _ => rfl) _ _ _) ?_))
  go_region_law_o (refine step_copy_runI rfl _ _ 23 23 rfl (.slice (some ⟨w.heap.size, (i + 1) * 16, none⟩) (n - i) (G - (i + 1))) (.slice (some ⟨b, off + i * 16, none⟩) (n - i) (c - i)) (by simp [Act.eval, Act.put]) (by simp [Act.eval, Act.put]) (hcpB _ hF1 hF2 3 (G - (i + 1)) (c - i)) ?_)
  go_wp2
  go_ret
  exact ⟨rfl, rfl⟩
end Go.Proofs.YtllgfkpmblhbmaaGreat
/-
slices.Insert at pods, ahead of the end: what state.With takes it for.
-/
namespace Go.Eng
open Go
theorem args3 {E : Env} {a0 a1 a2 : V} {vs : Array Value} (hv : RelL E [a0, a1, a2] vs) : ∃ x0 x1 x2, vs = #[x0, x1, x2] ∧ Rel E a0 x0 ∧ Rel E a1 x1 ∧ Rel E a2 x2 := by
  obtain ⟨x0, h0, r0⟩ := hv.get (j := 0) rfl
  obtain ⟨x1, h1, r1⟩ := hv.get (j := 1) rfl
  obtain ⟨x2, h2, r2⟩ := hv.get (j := 2) rfl
  have hs := hv.1
  refine ⟨x0, x1, x2, Array.ext (by simpa using hs) fun i i1 i2 => ?_, r0, r1, r2⟩
  have : i = 0 ∨ i = 1 ∨ i = 2 := by simp at i2; omega
  rcases this with rfl | rfl | rfl
  · simpa using (Array.getElem?_eq_some_iff.1 h0).2
  · simpa using (Array.getElem?_eq_some_iff.1 h1).2
  · simpa using (Array.getElem?_eq_some_iff.1 h2).2
/-- A slice that is written to, over elements that there are. -/
theorem rel_ms {E : Env} {k : Key} {sz s len : Nat} {x : Value} (h : Rel E (.ms k sz s len) x) (hl : 0 < len) :
    ∃ cap, x = .slice (some ⟨(E.μ k).blk, (E.μ k).base + s * sz, none⟩) len cap ∧ E.has k ∧ len ≤ cap ∧ (E.μ k).base + (s + cap) * sz = (E.μ k).fin := by
  cases h with
  | deep hd => cases hd
  | ms _ _ _ _ a cap hk hc hf hb ha =>
    rcases ha with ha | ha
    · omega
    · subst ha
      exact ⟨cap, rfl, hk, hc, hf⟩
/-- Memory of rows of more than one cell bears no mark. -/
theorem frozen_none {w : World} {b : Nat} {cells : Array Value} {t : TypeId} {fz : Nat × Nat} (h : w.heap[b]? = some (.cells cells t fz)) (hf : fz.1 = fz.2) (o : Nat) : w.frozen? ⟨b, o, none⟩ = false := by
  obtain ⟨lo, hi⟩ := fz
  simp only at hf
  subst hf
  simp [World.frozen?, h]
end Go.Eng
namespace Go.Proofs.YtllgfkpmblhbmaaGreat
open Go.Eng
theorem two_drew (b o p : Nat) (ys xs : List Value) (A : World) : ((A.drew.setCells b o ys).drew).setCells b p xs = (((A.setCells b o ys).setCells b p xs).drew).drew := by
  rw [← Go.Proofs.drew_setCells b ys o A, ← Go.Proofs.drew_setCells b xs p (A.setCells b o ys).drew, ← Go.Proofs.drew_setCells b xs p (A.setCells b o ys)]
set_option maxHeartbeats 4000000 in
theorem insOk : InsOk Tryz.prog 64 := by
  intro l i p a c h K hi hroom ha hc hac hK
  have hrow16 : ∀ e ∈ l.map podR, e.length = 16 := fun e he => by obtain ⟨q, _, rfl⟩ := List.mem_map.1 he; rfl
  have hlm : (l.map podR).length = l.length := List.length_map _
  refine ⟨by kernel_rfl, fun E w vs hnl hs hv => ?_⟩
  obtain ⟨x0, x1, x2, rfl, r0, r1, r2⟩ := args3 hv
  obtain ⟨cap, rfl, hka, hcap, hfin⟩ := rel_ms r0 (by omega)
  have := rel_int r1
  subst this
  obtain ⟨vc, rfl, hkc, hvc, hvfin⟩ := rel_ms r2 (by omega)
  have hoa : (gst h).get (.g a) = some (.arr 16 (l.map podR)) := ha
  have hoc : (gst h).get (.g c) = some (.arr 16 [podR p]) := hc
  obtain ⟨ca, ta, fa, xs, a1, a2, a3, a4, a5, a6, a7, a8, a9⟩ := hs.rowCells hoa
  obtain ⟨cc, tc, fc, ys, c1, c2, c3, c4, c5, c6, c7, c8, c9⟩ := hs.rowCells hoc
  rw [hlm] at a3 a6
  simp only [List.length_cons, List.length_nil, Nat.zero_add, Nat.one_mul] at c3 c6
  have fa' : fa.1 = fa.2 := a2.elim id fun h => absurd h.2 (by decide)
  have fc' : fc.1 = fc.2 := c2.elim id fun h => absurd h.2 (by decide)
  have hne : (E.μ (.g c)).blk ≠ (E.μ (.g a)).blk := hs.sep _ _ ⟨_, hoc⟩ ⟨_, hoa⟩ (fun e => hac (by cases e; rfl))
  simp only [Nat.zero_mul, Nat.add_zero, Nat.zero_add] at hfin hvfin ⊢
  have hcsl : xs.length = l.length * 16 := a6
  have hcell : ∀ j v, xs[j]? = some v → w.cell? ⟨(E.μ (.g a)).blk, (E.μ (.g a)).base + j, none⟩ = some v := fun j v hj => by
    rw [cell?_eq]; simp only [cellIn, a1]; exact a7 j v hj
  have hvell : ∀ j v, ys[j]? = some v → w.cell? ⟨(E.μ (.g c)).blk, (E.μ (.g c)).base + j, none⟩ = some v := fun j v hj => by
    rw [cell?_eq]; simp only [cellIn, c1]; exact c7 j v hj
  obtain ⟨i0, z, hi0, hz0, hzs, hzb, hzp, hbp, hzc⟩ := elOk_spec (P := Tryz.prog) (el := 33) (sz := 16) (bytes := 248) (by kernel_rfl)
  have hrows : (l.map podR).take i ++ [podR p] ++ (l.map podR).drop i = (l.take i ++ [p] ++ l.drop i).map podR := by simp [List.map_take, List.map_drop]
  have hvr0 : InRow (E.at (.g c)) (podR p) ys := by simpa using c8
  have hvr : InRow (E.at (.g a)) (podR p) ys := hvr0
  have hil : i ≤ (l.map podR).length := by omega
  rw [← hrows] at hK
  by_cases hrm : l.length + 1 ≤ cap
  · have hth : w.there (E.μ (.g a)).blk (E.μ (.g a)).base ((l.length + 1) * 16) := Row.there a1 a2 (by
      have : (l.length + 1) * 16 ≤ cap * 16 := Nat.mul_le_mul_right _ hrm
      omega)
    refine (ins_shift (E.μ (.g a)).blk (E.μ (.g a)).base l.length cap i (E.μ (.g c)).blk (E.μ (.g c)).base vc xs ys w hi hrm (by omega) hne hcsl (by omega) hcell hth hvell a9 c9 tc ta cc.size ca.size (by simp [World.shape?, c1]) (by simp [World.shape?, a1]) (by omega) (frozen_none c1 fc' _) (frozen_none c1 fc' _)).mono ?_
    rintro e w' ⟨rfl, rfl⟩
    obtain ⟨E', s1, s2, s3, s4⟩ := hs.insRoom (w' := (w.drew.setCells (E.μ (.g a)).blk ((E.μ (.g a)).base + (i + 1) * 16) (xs.drop (i * 16))).setCells (E.μ (.g a)).blk ((E.μ (.g a)).base + i * 16) ys) hoa hil (row := podR p) rfl (xs := xs) (vs := ys) (by rw [hlm]; exact hcsl) hcell (by omega) hvr
      (by
        rw [hlm]
        have : (l.length + 1) * 16 ≤ cap * 16 := Nat.mul_le_mul_right _ hrm
        omega) (by rw [← Go.Proofs.drew_setCells, ← Go.Proofs.drew_setCells]; rfl)
      (by
        rw [← Go.Proofs.drew_setCells, ← Go.Proofs.drew_setCells]
        obtain ⟨_, q1, q2, q3⟩ := setCells_rest (E.μ (.g a)).blk (xs.drop (i * 16)) ((E.μ (.g a)).base + (i + 1) * 16) w
        obtain ⟨_, t1, t2, t3⟩ := setCells_rest (E.μ (.g a)).blk ys ((E.μ (.g a)).base + i * 16) (w.setCells (E.μ (.g a)).blk ((E.μ (.g a)).base + (i + 1) * 16) (xs.drop (i * 16)))
        exact ⟨t1.trans q1, t2.trans q2, t3.trans q3⟩) true rfl
    refine ⟨_, _, _, E', hK, rfl, s1.nl.symm, s1, s2, ?_⟩
    have s3' : E'.has (.g h.next) := s3
    have s4' : E'.μ (.g h.next) = E.μ (.g a) := s4
    refine .ms _ 16 0 _ _ cap s3' hrm (by rw [s4', Nat.zero_add]; exact hfin) (by rw [s4']) (.inr (by rw [s4', Nat.zero_mul, Nat.add_zero]))
  · have hcn : cap = l.length := by omega
    subst hcn
    have hbig : (l.length + 1) * 248 ≤ 140737488355328 := by omega
    refine (ins_grow (E.μ (.g a)).blk (E.μ (.g a)).base l.length l.length i (E.μ (.g c)).blk (E.μ (.g c)).base vc xs ys w hi (Nat.le_refl _) (by omega) hbig hcsl (by omega) hcell hvell a9 c9 i0 z hi0 hz0 hzs hzb hzc).mono ?_
    rintro e w' ⟨rfl, rfl⟩
    obtain ⟨G, hG⟩ : ∃ G, G = grownCap w (l.length + 1) l.length 33 := ⟨_, rfl⟩
    have hGn : l.length + 1 ≤ G := by rw [hG]; exact grownCap_ge w _ _ _
    rw [← hG]
    obtain ⟨ROW, hROW⟩ : ∃ ROW : Array Value, ROW = (xs.take (i * 16)).toArray ++ Builtin.zeroCells z.cells (l.length + 1 - i) ++ Builtin.zeroCells z.cells (G - (l.length + 1)) := ⟨_, rfl⟩
    rw [← hROW]
    have htl : (xs.take (i * 16)).length = i * 16 := by rw [List.length_take]; omega
    have hdl : (xs.drop (i * 16)).length = (l.length - i) * 16 := by rw [List.length_drop, hcsl, Nat.sub_mul]
    have hyl : ys.length = 16 := by omega
    have hRs : ROW.size = G * 16 := by
      rw [hROW, Array.size_append, Array.size_append, size_zeroCells, size_zeroCells, hzc, List.size_toArray, htl]
      omega
    have hR0 : ∀ j, j < i * 16 → ROW[j]? = xs[j]? := fun j hj => by
      rw [hROW, Array.append_assoc, Array.getElem?_append_left (by rw [List.size_toArray]; omega)]
      simp [hj]
    obtain ⟨C, hC⟩ : ∃ C, C = stArr (stArr ROW (i * 16) ys) ((i + 1) * 16) (xs.drop (i * 16)) := ⟨_, rfl⟩
    have hCs : C.size = G * 16 := by rw [hC, stArr_size, stArr_size, hRs]
    have hCg : ∀ j, C[j]? = if (i + 1) * 16 ≤ j ∧ j < l.length * 16 + 16 then xs[j - 16]? else if i * 16 ≤ j ∧ j < i * 16 + 16 then ys[j - i * 16]? else ROW[j]? := by
      intro j
      rw [hC, stArr_get _ _ _ _ (by rw [stArr_size, hRs, hdl]; omega), stArr_get _ _ _ _ (by rw [hRs, hyl]; omega), hdl, hyl]
      by_cases b1 : (i + 1) * 16 ≤ j ∧ j < l.length * 16 + 16
      · rw [if_pos b1, if_pos (by omega), List.getElem?_drop, show i * 16 + (j - (i + 1) * 16) = j - 16 by omega]
      · rw [if_neg b1, if_neg (by omega)]
    obtain ⟨W', hW'⟩ : ∃ W', W' = (((w.alloc (.cells ROW 33)).drew.setCells w.heap.size (i * 16) ys).drew).setCells w.heap.size ((i + 1) * 16) (xs.drop (i * 16)) := ⟨_, rfl⟩
    rw [← hW']
    have hW'' : W' = ((((w.alloc (.cells ROW 33)).setCells w.heap.size (i * 16) ys).setCells w.heap.size ((i + 1) * 16) (xs.drop (i * 16))).drew).drew := hW'.trans (two_drew _ _ _ _ _ _)
    have hheap : W'.heap = w.heap.push (.cells C 33 (0, 0)) := by
      rw [hW'']
      show (((w.alloc (.cells ROW 33)).setCells w.heap.size (i * 16) ys).setCells w.heap.size ((i + 1) * 16) (xs.drop (i * 16))).heap = _
      have h0 : (w.alloc (.cells ROW 33)).heap[w.heap.size]? = some (.cells ROW 33 (0, 0)) := by show (w.heap.push _)[w.heap.size]? = _; simp
      have h1 := setCells_heap w.heap.size (xs.drop (i * 16)) ((i + 1) * 16) _ (setCells_heap w.heap.size ys (i * 16) _ h0)
      apply Array.ext_getElem?
      intro j
      by_cases hj : j = w.heap.size
      · subst hj
        rw [h1, hC]; simp
      · rw [setCells_other _ hj, setCells_other _ hj]
        show (w.heap.push _)[j]? = _
        rw [Array.getElem?_push, Array.getElem?_push, if_neg hj, if_neg hj]
    have hso : SameOut w W' := by
      rw [hW'']
      obtain ⟨_, q1, q2, q3⟩ := setCells_rest w.heap.size ys (i * 16) (w.alloc (.cells ROW 33))
      obtain ⟨_, t1, t2, t3⟩ := setCells_rest w.heap.size (xs.drop (i * 16)) ((i + 1) * 16) ((w.alloc (.cells ROW 33)).setCells w.heap.size (i * 16) ys)
      exact ⟨t1.trans q1, t2.trans q2, t3.trans q3⟩
    have hdsl : ((l.map podR).take i ++ [podR p] ++ (l.map podR).drop i).length = l.length + 1 := by simp; omega
    obtain ⟨E', s1, s2, s3⟩ := fresh_mu (w' := W') hs (some (.g a)) true (cells := C) (t := 33) (fz := (0, 0)) (.inl rfl) hheap hso (sz := 16) (cap := G) (ds := (l.map podR).take i ++ [podR p] ++ (l.map podR).drop i) (ins_lens hrow16 rfl) hCs (by rw [hdsl]; exact hGn) (fun j v hj => by
      rw [ins_flat hrow16, ins_get (sz := 16) (n := l.length) rfl (by rw [flat_len hrow16, hlm]) (by omega)] at hj
      rw [Array.getElem?_toList, hCg]
      split at hj
      · rename_i b1
        rw [if_neg (by omega), if_neg (by omega), hR0 j b1]
        exact a8 j v hj
      · split at hj
        · rename_i b1 b2
          rw [if_neg (by omega), if_pos (by omega)]
          exact hvr _ v hj
        · rename_i b1 b2
          have hlt := (List.getElem?_eq_some_iff.1 hj).1
          rw [flat_len hrow16, hlm] at hlt
          rw [if_pos (by omega)]
          exact a8 _ v hj)
    rw [hdsl] at s3
    exact ⟨_, _, _, E', hK, rfl, s1.nl.symm, s1, s2, s3⟩
end Go.Proofs.YtllgfkpmblhbmaaGreat
