/-
Nodes in domains, by their numbers.
-/
import Derived.Test.YtllgfkpmblhbmaaGreatZoP
import Derived.Test.YtllgfkpmblhbmaaGreatFitA
set_option linter.unusedVariables false
set_option linter.unusedSimpArgs false
namespace Go.Eng
open Go
theorem wu8z {n : Int} {k : Int → Prop} (h1 : 0 ≤ n) (h2 : n ≤ 255) (hk : k n) : SWrap .u8 n k :=
  .of (by have : IntKind.u8.min = 0 := by decide
          omega) (by have : IntKind.u8.max = 255 := by decide
                     omega) hk
/-- So far: nodes of names that rise. -/
structure ZonesTo (i : Nat) (N : List NodeD) : Prop where
  len : N.length = i
  node : ∀ (j : Nat) (n : NodeD), N[j]? = some n → n.name = [110, UInt8.ofNat (97 + j)] ∧ n.cap = ⟨1000, 1000, 1000⟩ ∧ n.taints = [] ∧ n.labels.length ≤ 1
def zNode (i : Nat) (l : List PairD) : NodeD := ⟨[110, UInt8.ofNat (97 + i)], ⟨1000, 1000, 1000⟩, l, []⟩
theorem ZonesTo.step {i : Nat} {N : List NodeD} (h : ZonesTo i N) (l : List PairD) (hl : l.length ≤ 1) : ZonesTo (i + 1) (N ++ [zNode i l]) := by
  refine ⟨by rw [List.length_append, h.len]; rfl, fun j n hn => ?_⟩
  by_cases hj : j < N.length
  · rw [List.getElem?_append_left hj] at hn
    exact h.node j n hn
  · rw [List.getElem?_append_right (by omega)] at hn
    have : j = N.length := by
      have := (List.getElem?_eq_some_iff.1 hn).1
      simp at this; omega
    subst this
    rw [Nat.sub_self] at hn
    cases hn
    rw [h.len]
    exact ⟨rfl, rfl, rfl, hl⟩
theorem ZonesTo.of {i : Nat} {N : List NodeD} (h : ZonesTo i N) (hi : i ≤ 6) : ZonesOf N := by
  refine ⟨by rw [h.len]; exact hi, ?_, fun n hn => ?_⟩
  · rw [List.pairwise_iff_getElem]
    intro a b ha hb hab
    obtain ⟨e1, _⟩ := h.node a _ (List.getElem?_eq_getElem ha)
    obtain ⟨e2, _⟩ := h.node b _ (List.getElem?_eq_getElem hb)
    rw [e1, e2]
    have hb6 : b < 6 := by have := h.len; omega
    have hlt : UInt8.ofNat (97 + a) < UInt8.ofNat (97 + b) := by
      rw [UInt8.lt_iff_toNat_lt]
      simp only [UInt8.toNat_ofNat']
      omega
    have hirr : ¬ (110 : UInt8) < 110 := UInt8.lt_irrefl 110
    simp only [lessS, Op.bytesLess, decide_eq_false hirr, decide_eq_true hlt, Bool.false_or, beq_self_eq_true, Bool.true_and, Bool.true_or]
  · obtain ⟨j, hj⟩ := List.mem_iff_getElem?.1 hn
    obtain ⟨e1, e2, e3, e4⟩ := h.node j n hj
    exact ⟨e2, e3, e4, by rw [e1]; exact List.cons_ne_nil _ _⟩
theorem ndLL_app : ∀ {a b c d : List (List V)}, NdLL a b → NdLL c d → NdLL (a ++ c) (b ++ d)
  | [], [], _, _, .nil, h => h
  | _ :: _, _ :: _, _, _, .cons h t, h2 => .cons h (ndLL_app t h2)
theorem pure_rows {Q : V → Prop} {t : Option Key} {sz : Nat} {es ds : List (List V)} {h' : Heap} (h : NdLL es ds) (hq : Q (.sl none sz ds)) : PureAt Q (.sl t sz es) h' :=
  pure_ce (u := .sl none sz ds) noFz fzOf_no (.inl (.inl (.rows h))) rfl hq
theorem nd_zone (nm : Str) (l : List PairD) : NdLL [[.s nm, .i .i64 1000, .i .i64 1000, .i .i64 1000, .sl none 2 (l.map pairR), .nils]] [nodeR ⟨nm, ⟨1000, 1000, 1000⟩, l, []⟩] :=
  .cons (.cons (.refl _) (.cons (.refl _) (.cons (.refl _) (.cons (.refl _) (.cons (.refl _) (.cons (.nil 2) .nil)))))) .nil
theorem nd_zone0 (nm : Str) : NdLL [[.s nm, .i .i64 1000, .i .i64 1000, .i .i64 1000, .nils, .nils]] [nodeR ⟨nm, ⟨1000, 1000, 1000⟩, [], []⟩] :=
  .cons (.cons (.refl _) (.cons (.refl _) (.cons (.refl _) (.cons (.refl _) (.cons (.nil 2) (.cons (.nil 2) .nil)))))) .nil
section
variable {P : Program} (hG : FnsOk P AF.fns.get)
include hG
set_option maxHeartbeats 4000000 in
set_option maxRecDepth 10000 in
theorem zones_ok (ds : List Int) (hl : LenOk ds) : Pure P 15 [.sl none 1 (ds.map intR)] (fun u => ∃ N, u = .sl none 6 (N.map nodeR) ∧ ZonesOf N) := by
  have hlm : (ds.map intR).length = ds.length := List.length_map _
  unfold LenOk at hl
  refine pure_fn (hG _ AF.f15 rfl) rfl ?_
  ((conv => whnf); repeat ((first | refine yf rfl ?_ | refine yt rfl ?_ | refine yo rfl ?_ | refine yc rfl ?_ | refine ys rfl ?_ | refine ye rfl ?_ | refine yn rfl ?_ | refine zw ?_ | refine zdt ?_ | refine zdf ?_ | refine znt ?_ | refine znf ?_ | refine zcd ?_ | refine zci ?_ | refine zc3 ?_) <;> (conv => whnf)))
  refine SLoopZ.by (fun q fr st => ∃ (i : Nat) (b : Bool) (N : List NodeD) (W : List (List V)), i ≤ ds.length ∧ i ≤ 6 ∧ q = 6 - i ∧ ZonesTo i N ∧ NdLL W (N.map nodeR) ∧ W.length = i ∧ (b = false → N = [] ∧ W = []) ∧
      fr = [(4, .i .i64 i), (3, accV b 0 6 W), (0, .sl none 1 (ds.map intR))] ∧ st = accS b 0 [])
    6 ⟨_, _, ?_, 0, false, [], [], Nat.zero_le _, Nat.zero_le _, rfl, ⟨rfl, fun j n h => by simp at h⟩, .nil, rfl, fun _ => ⟨rfl, rfl⟩, rfl, rfl⟩ ?_
  · exact tL0
  rintro q fr st ⟨i, b, N, W, hi, hi6, rfl, hz, hnd, hWl, hb, rfl, rfl⟩ R hR
  have hzl := hz.len
  by_cases hin : i < ds.length ∧ i < 6
  · obtain ⟨hi1, hi2⟩ := hin
    have he := List.getElem?_eq_getElem hi1
    generalize ds[i] = e at he
    have h1 : e.tmod 4 < 4 := Int.tmod_lt_of_pos e (by decide)
    by_cases hd : 0 < e.tmod 4
    · have hst := hz.step [⟨zoneS, [UInt8.ofNat (97 + e.tmod 4).toNat]⟩] (Nat.le_refl _)
      have hn2 := nd_zone [110, UInt8.ofNat (97 + i)] [⟨zoneS, [UInt8.ofNat (97 + e.tmod 4).toNat]⟩]
      have hn3 : ∀ W', NdLL W' (N.map nodeR) → NdLL (W' ++ [[.s [110, UInt8.ofNat (97 + i)], .i .i64 1000, .i .i64 1000, .i .i64 1000, .sl none 2 [[.s zoneS, .s [UInt8.ofNat (97 + e.tmod 4).toNat]]], .nils]]) ((N ++ [zNode i [⟨zoneS, [UInt8.ofNat (97 + e.tmod 4).toNat]⟩]]).map nodeR) := fun W' h => by
        rw [List.map_append]; exact ndLL_app h hn2
      cases b
      · obtain ⟨rfl, rfl⟩ := hb rfl
        ((conv => whnf); repeat ((first | refine wu8z (by omega) (by omega) ?_ | refine SIf.dt hd ?_ | refine SEx.of (map_get' (by omega) he) ?_ | refine yf rfl ?_ | refine yt rfl ?_ | refine yo rfl ?_ | refine yc rfl ?_ | refine ys rfl ?_ | refine ye rfl ?_ | refine yn rfl ?_ | refine zw ?_ | refine zdt ?_ | refine zdf ?_ | refine znt ?_ | refine znf ?_ | refine zcd ?_ | refine zci ?_ | refine zc3 ?_) <;> (conv => whnf)))
        refine hR (6 - (i + 1)) _ _ (by omega) ⟨_, _, ?_, i + 1, true, _, _, by omega, by omega, rfl, hst, hn3 [] .nil, by rw [List.nil_append, List.length_cons, ← hWl], (fun h => by cases h), rfl, rfl⟩
        exact tL [5]
      · ((conv => whnf); repeat ((first | refine wu8z (by omega) (by omega) ?_ | refine SIf.dt hd ?_ | refine SChk.mk (by simp [roomOk]; omega) ?_ | refine SIf.df (by simp only [List.length_cons, List.length_nil]; omega) ?_ | refine SEx.of (map_get' (by omega) he) ?_ | refine yf rfl ?_ | refine yt rfl ?_ | refine yo rfl ?_ | refine yc rfl ?_ | refine ys rfl ?_ | refine ye rfl ?_ | refine yn rfl ?_ | refine zw ?_ | refine zdt ?_ | refine zdf ?_ | refine znt ?_ | refine znf ?_ | refine zcd ?_ | refine zci ?_ | refine zc3 ?_) <;> (conv => whnf)))
        refine hR (6 - (i + 1)) _ _ (by omega) ⟨_, _, ?_, i + 1, true, _, _, by omega, by omega, rfl, hst, hn3 W hnd, by rw [List.length_append, hWl]; rfl, (fun h => by cases h), rfl, rfl⟩
        exact tL [6]
    · have hst := hz.step [] (Nat.zero_le _)
      have hn2 := nd_zone0 [110, UInt8.ofNat (97 + i)]
      have hn3 : ∀ W', NdLL W' (N.map nodeR) → NdLL (W' ++ [[.s [110, UInt8.ofNat (97 + i)], .i .i64 1000, .i .i64 1000, .i .i64 1000, .nils, .nils]]) ((N ++ [zNode i []]).map nodeR) := fun W' h => by
        rw [List.map_append]; exact ndLL_app h hn2
      cases b
      · obtain ⟨rfl, rfl⟩ := hb rfl
        ((conv => whnf); repeat ((first | refine wu8z (by omega) (by omega) ?_ | refine SIf.df hd ?_ | refine SEx.of (map_get' (by omega) he) ?_ | refine yf rfl ?_ | refine yt rfl ?_ | refine yo rfl ?_ | refine yc rfl ?_ | refine ys rfl ?_ | refine ye rfl ?_ | refine yn rfl ?_ | refine zw ?_ | refine zdt ?_ | refine zdf ?_ | refine znt ?_ | refine znf ?_ | refine zcd ?_ | refine zci ?_ | refine zc3 ?_) <;> (conv => whnf)))
        refine hR (6 - (i + 1)) _ _ (by omega) ⟨_, _, ?_, i + 1, true, _, _, by omega, by omega, rfl, hst, hn3 [] .nil, by rw [List.nil_append, List.length_cons, ← hWl], (fun h => by cases h), rfl, rfl⟩
        exact tL [3]
      · ((conv => whnf); repeat ((first | refine wu8z (by omega) (by omega) ?_ | refine SIf.df hd ?_ | refine SChk.mk (by simp [roomOk]; omega) ?_ | refine SIf.df (by simp only [List.length_cons, List.length_nil]; omega) ?_ | refine SEx.of (map_get' (by omega) he) ?_ | refine yf rfl ?_ | refine yt rfl ?_ | refine yo rfl ?_ | refine yc rfl ?_ | refine ys rfl ?_ | refine ye rfl ?_ | refine yn rfl ?_ | refine zw ?_ | refine zdt ?_ | refine zdf ?_ | refine znt ?_ | refine znf ?_ | refine zcd ?_ | refine zci ?_ | refine zc3 ?_) <;> (conv => whnf)))
        refine hR (6 - (i + 1)) _ _ (by omega) ⟨_, _, ?_, i + 1, true, _, _, by omega, by omega, rfl, hst, hn3 W hnd, by rw [List.length_append, hWl]; rfl, (fun h => by cases h), rfl, rfl⟩
        exact tL [4]
  · have h6 : ¬ i < ds.length ∨ (i < ds.length ∧ ¬ i < 6) := by omega
    rcases h6 with h1 | ⟨h1, h2⟩
    all_goals cases b
    all_goals ((conv => whnf); repeat ((first | refine yf rfl ?_ | refine yt rfl ?_ | refine yo rfl ?_ | refine yc rfl ?_ | refine ys rfl ?_ | refine ye rfl ?_ | refine yn rfl ?_ | refine zw ?_ | refine zdt ?_ | refine zdf ?_ | refine znt ?_ | refine znf ?_ | refine zcd ?_ | refine zci ?_ | refine zc3 ?_) <;> (conv => whnf)))
    · obtain ⟨rfl, rfl⟩ := hb rfl
      exact pure_nil (sz := 6) ⟨[], rfl, hz.of hi6⟩
    · exact pure_rows hnd ⟨N, rfl, hz.of hi6⟩
    · obtain ⟨rfl, rfl⟩ := hb rfl
      exact pure_nil (sz := 6) ⟨[], rfl, hz.of hi6⟩
    · exact pure_rows hnd ⟨N, rfl, hz.of hi6⟩
end
end Go.Eng
