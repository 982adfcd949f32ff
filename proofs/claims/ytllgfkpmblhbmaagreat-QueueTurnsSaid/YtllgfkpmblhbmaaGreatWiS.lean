/-
The sort by insertion, of rows that are written to.
-/
import Derived.Test.YtllgfkpmblhbmaaGreatWiA
set_option linter.unusedVariables false
set_option linter.unusedSimpArgs false
namespace Go.Eng
open Go
section plain
variable {α : Type}
/-- One element laid in at j. -/
def rowsAt (pre : List α) (x : α) (j : Nat) (rest : List α) : List α := pre.take j ++ [x] ++ pre.drop j ++ rest
def insIx (lt : α → α → Bool) (pre : List α) (x : α) : Nat := pre.length - (pre.reverse.takeWhile (lt x)).length
def insD (lt : α → α → Bool) (pre : List α) (x : α) : List α := rowsAt pre x (insIx lt pre x) []
def isortD (lt : α → α → Bool) (l : List α) : List α := l.foldl (insD lt) []
theorem takeWhile_at' {f : α → Bool} {l : List α} {i : Nat} (hi : i ≤ l.length) (hb : ∀ (j : Nat) (x : α), j < i → l[j]? = some x → f x = true) (he : ∀ x, l[i]? = some x → f x = false) : (l.takeWhile f).length = i := takeWhile_at hi hb he
theorem insIx_eq {lt : α → α → Bool} {pre : List α} {x : α} {j : Nat} (hj : j ≤ pre.length) (h : ∀ (t : Nat) (y : α), j ≤ t → pre[t]? = some y → lt x y = true) (h0 : ∀ y, 0 < j → pre[j - 1]? = some y → lt x y = false) : insIx lt pre x = j := by
  unfold insIx
  rw [takeWhile_at (i := pre.length - j) (by simp) (fun t y ht hy => ?_) (fun y hy => ?_)]
  · omega
  · rw [List.getElem?_reverse (by omega)] at hy
    exact h _ y (by omega) hy
  · have hlt := (List.getElem?_eq_some_iff.1 hy).1
    rw [List.length_reverse] at hlt
    rw [List.getElem?_reverse (by omega)] at hy
    exact h0 y (by omega) (by rw [← hy]; congr 1; omega)
theorem rowsAt_len (pre : List α) (x : α) (j : Nat) (rest : List α) : (rowsAt pre x j rest).length = pre.length + 1 + rest.length := by
  unfold rowsAt
  simp only [List.length_append, List.length_take, List.length_drop, List.length_cons, List.length_nil]; omega
theorem rowsAt_self {pre : List α} {x : α} {j : Nat} {rest : List α} (hj : j ≤ pre.length) : (rowsAt pre x j rest)[j]? = some x := by
  unfold rowsAt
  have h1 : (pre.take j).length = j := by rw [List.length_take]; omega
  rw [List.append_assoc, List.append_assoc, List.getElem?_append_right (by omega), h1, Nat.sub_self]; rfl
theorem rowsAt_lo {pre : List α} {x : α} {j t : Nat} {rest : List α} (hj : j ≤ pre.length) (ht : t < j) : (rowsAt pre x j rest)[t]? = pre[t]? := by
  unfold rowsAt
  have h1 : (pre.take j).length = j := by rw [List.length_take]; omega
  rw [List.append_assoc, List.append_assoc, List.getElem?_append_left (by omega), List.getElem?_take, if_pos ht]
theorem rowsAt_swap {pre : List α} {x y : α} {j : Nat} {rest : List α} (hj : j < pre.length) (hy : pre[j]? = some y) : ((rowsAt pre x (j + 1) rest).set (j + 1) y).set j x = rowsAt pre x j rest := by
  have e1 : pre.take (j + 1) = pre.take j ++ [y] := take_succ' hy
  have e2 : pre.drop j = y :: pre.drop (j + 1) := by
    rw [List.drop_eq_getElem_cons hj]
    rw [List.getElem?_eq_getElem hj] at hy
    cases hy; rfl
  have h1 : (pre.take j).length = j := by rw [List.length_take]; omega
  unfold rowsAt
  rw [e1, e2]
  simp only [List.append_assoc, List.cons_append, List.nil_append]
  rw [List.set_append_right _ _ (by omega), List.set_append_right _ _ (by omega), h1]
  simp
theorem rowsAt_end (pre : List α) (x : α) (rest : List α) : rowsAt pre x pre.length rest = pre ++ x :: rest := by
  unfold rowsAt; simp
theorem insD_rest (lt : α → α → Bool) (pre : List α) (x : α) (rest : List α) : rowsAt pre x (insIx lt pre x) rest = insD lt pre x ++ rest := by
  unfold insD rowsAt; simp
theorem isortD_len (lt : α → α → Bool) : ∀ (l acc : List α), (l.foldl (insD lt) acc).length = acc.length + l.length
  | [], acc => by simp
  | x :: r, acc => by
    rw [List.foldl_cons, isortD_len lt r]
    unfold insD
    rw [rowsAt_len]; simp; omega
theorem isortD_snoc {lt : α → α → Bool} {l : List α} {i : Nat} {x : α} (hx : l[i]? = some x) : isortD lt (l.take (i + 1)) = insD lt (isortD lt (l.take i)) x := by
  unfold isortD
  rw [take_succ' hx, List.foldl_append]; rfl
theorem map_set_of {β : Type} {R : α → List β} {l : List α} {j : Nat} {x : α} : (l.map R).set j (R x) = (l.set j x).map R := by
  rw [List.map_set]
end plain
theorem find_upd_upd (n : Nat) (x y : Obj) : ∀ l, Heap.upd (Heap.upd l n x) n y = Heap.upd l n y
  | [] => rfl
  | (k, o) :: r => by
    by_cases hk : k = n
    · simp [Heap.upd, hk]
    · simp [Heap.upd, hk, find_upd_upd n x y r]
theorem heap_set2 (h : Heap) (n : Nat) (x y : Obj) : (h.set n x).set n y = h.set n y := by simp [Heap.set, find_upd_upd]
theorem find_upd_same {n : Nat} {x : Obj} : ∀ {l : List (Nat × Obj)}, Heap.find l n = some x → Heap.upd l n x = l
  | [], _ => rfl
  | (k, o) :: r, h => by
    by_cases hk : k = n
    · simp [Heap.find, hk] at h; simp [Heap.upd, hk, h]
    · simp [Heap.find, hk] at h; simp [Heap.upd, hk, find_upd_same h]
theorem heap_set_same {h : Heap} {n : Nat} {x : Obj} (hx : h.get n = some x) : h.set n x = h := by
  unfold Heap.get at hx
  simp [Heap.set, find_upd_same hx]
theorem w64e {n m : Int} {k : Int → Prop} (e : n = m) (h1 : -9223372036854775808 ≤ m) (h2 : m ≤ 9223372036854775807) (hk : k m) : SWrap .i64 n k := by
  subst e; exact .w64 h1 h2 hk
theorem set_get' {α β : Type} {R : α → List β} {l : List α} {a b j : Nat} {e : List β} {y : α} (hab : a ≠ b) (hb : b = j) (h : a = a) (hj : l[j]? = some y) : ((l.map R).set a e)[b]? = some (R y) := by
  subst hb
  rw [List.getElem?_set_ne hab]
  exact map_get hj
theorem two_set {h : Heap} {r a b i j : Nat} {l : List PodD} {x y : PodD} {o o' : Obj} (ha : a = i) (hb : b = j) :
    gst (((h.set r o').set r o).set r (.arr 16 (((l.map podR).set a (podR y)).set b (podR x)))) = gst (h.set r (.arr 16 (((l.set i y).set j x).map podR))) := by
  subst ha; subst hb
  rw [heap_set2, heap_set2, List.map_set, List.map_set]
section
variable {P : Program} (hG : FnsOk P AF.fns.get)
include hG
set_option maxHeartbeats 8000000 in
set_option maxRecDepth 10000 in
theorem isortm_pod (c : PodD → PodD → Int) (g : Nat) (hg : ∀ a b : PodD, Pure P g [.agg (podR a), .agg (podR b)] (· = .i .i64 (c a b))) (l : List PodD) (hl : l.length ≤ 1000000) {r : Nat} {h : Heap} (hr : h.get r = some (.arr 16 (l.map podR))) {K : V → Heap → Prop}
    (hK : K (.tup []) (h.set r (.arr 16 ((isortD (fun a b => decide (c a b < 0)) l).map podR)))) :
    ACall P 162 [.ms (.g r) 16 0 l.length, .i .i64 0, .i .i64 l.length, .fn g [] []] h K := by
  obtain ⟨lt, hlt⟩ : ∃ lt : PodD → PodD → Bool, lt = fun a b => decide (c a b < 0) := ⟨_, rfl⟩
  rw [← hlt] at hK
  refine fn_sp (hG _ AF.f162 rfl) rfl ?_
  ((conv => whnf); repeat ((first | refine SWrap.w64 (by omega) (by omega) ?_ | refine SIf.ff rfl ?_ | refine SIf.tt rfl ?_ | refine SOpt.of rfl ?_ | refine SChk.mk rfl ?_ | refine SSame.mk rfl ?_ | refine SEx.of rfl ?_) <;> (conv => whnf)))
  refine SLoop.by (fun q fr st => ∃ i : Nat, 1 ≤ i ∧ i ≤ l.length + 1 ∧ q = l.length + 1 - i ∧
      Fr.le [(8, .i .i64 i), (3, .fn g [] []), (2, .i .i64 l.length), (1, .i .i64 0), (0, .ms (.g r) 16 0 l.length)] fr ∧ st = gst (h.set r (.arr 16 ((isortD lt (l.take i) ++ l.drop i).map podR))))
    l.length ⟨1, by omega, by omega, by omega, (by repeat (first | exact Fr.le_nil | refine Fr.le_cons rfl ?_)), ?_⟩ ?_
  · have e : isortD lt (l.take 1) ++ l.drop 1 = l := by
      cases l with
      | nil => rfl
      | cons x r => simp [isortD, insD, rowsAt, insIx]
    rw [e, heap_set_same hr]
  rintro q fr st ⟨i, hi1, hi, rfl, hle, rfl⟩
  refine ⟨_, hle, fun R hR => ?_⟩
  ((conv => whnf); repeat ((first | refine SIf.ff rfl ?_ | refine SIf.tt rfl ?_ | refine SOpt.of rfl ?_ | refine SChk.mk rfl ?_ | refine SSame.mk rfl ?_ | refine SEx.of rfl ?_) <;> (conv => whnf)))
  refine SIf.ds (fun hlt' => ?_) (fun hge => ?_)
  · have hi' : i < l.length := by omega
    have hx := List.getElem?_eq_getElem hi'
    generalize l[i] = x at hx
    obtain ⟨pre, hpre⟩ : ∃ pre, pre = isortD lt (l.take i) := ⟨_, rfl⟩
    have hpl : pre.length = i := by rw [hpre]; unfold isortD; rw [isortD_len]; simp; omega
    have hdrop : l.drop i = x :: l.drop (i + 1) := by
      rw [List.drop_eq_getElem_cons hi']
      rw [List.getElem?_eq_getElem hi'] at hx
      cases hx; rfl
    ((conv => whnf); repeat ((first | refine SIf.ff rfl ?_ | refine SIf.tt rfl ?_ | refine SOpt.of rfl ?_ | refine SChk.mk rfl ?_ | refine SSame.mk rfl ?_ | refine SEx.of rfl ?_) <;> (conv => whnf)))
    refine SLoop.by (fun q fr st => ∃ j : Nat, j ≤ i ∧ j = q ∧ (∀ (t : Nat) (y : PodD), j ≤ t → pre[t]? = some y → lt x y = true) ∧
        Fr.le [(9, .i .i64 j), (8, .i .i64 i), (3, .fn g [] []), (2, .i .i64 l.length), (1, .i .i64 0), (0, .ms (.g r) 16 0 l.length)] fr ∧ st = gst (h.set r (.arr 16 ((rowsAt pre x j (l.drop (i + 1))).map podR))))
      i ⟨i, by omega, rfl, (fun t y ht hy => by have := (List.getElem?_eq_some_iff.1 hy).1; omega), (by repeat (first | exact Fr.le_nil | refine Fr.le_cons rfl ?_)), ?_⟩ ?_
    · rw [hdrop, ← hpre]
      have he := rowsAt_end pre x (l.drop (i + 1))
      rw [hpl] at he
      rw [he]
    rintro q fr st ⟨j, hj, rfl, hall, hle2, rfl⟩
    refine ⟨_, hle2, fun R' hR' => ?_⟩
    have hob : ∀ rows : List PodD, (h.set r (.arr 16 (rows.map podR))).get r = some (.arr 16 (rows.map podR)) := fun rows => Heap.get_set_self hr
    have hrl : (rowsAt pre x j (l.drop (i + 1))).length = l.length := by rw [rowsAt_len, List.length_drop]; omega
    have hself : (rowsAt pre x j (l.drop (i + 1)))[j]? = some x := rowsAt_self (by omega)
    have hend : ∀ k : Nat, k ≤ i → (∀ (t : Nat) (y : PodD), k ≤ t → pre[t]? = some y → lt x y = true) → (∀ y, 0 < k → pre[k - 1]? = some y → lt x y = false) → rowsAt pre x k (l.drop (i + 1)) = isortD lt (l.take (i + 1)) ++ l.drop (i + 1) := fun k hk h1 h2 => by
      rw [isortD_snoc hx, ← hpre, ← insD_rest, insIx_eq (by omega) h1 h2]
    cases j with
    | zero =>
      ((conv => whnf); repeat ((first | refine SWrap.w64 (by omega) (by omega) ?_ | refine SIf.ff rfl ?_ | refine SIf.tt rfl ?_ | refine SOpt.of rfl ?_ | refine SChk.mk rfl ?_ | refine SSame.mk rfl ?_ | refine SEx.of rfl ?_) <;> (conv => whnf)))
      refine hR (l.length + 1 - (i + 1)) _ _ (by omega) ⟨i + 1, by omega, by omega, rfl, (by repeat (first | exact Fr.le_nil | refine Fr.le_cons rfl ?_)), ?_⟩
      rw [hend 0 (by omega) hall (fun y h => by omega)]
    | succ j =>
      have hlow : (rowsAt pre x (j + 1) (l.drop (i + 1)))[j]? = pre[j]? := rowsAt_lo (by omega) (by omega)
      have hy := List.getElem?_eq_getElem (show j < pre.length by omega)
      generalize pre[j]'(by omega) = y at hy
      rw [hy] at hlow
      ((conv => whnf); repeat ((first | refine SIf.dt (by omega) ?_ | refine SChk.ix (by omega) (by omega) ?_ | refine SWrap.w64 (by omega) (by omega) ?_ | refine SIf.ff rfl ?_ | refine SIf.tt rfl ?_ | refine SOpt.of rfl ?_ | refine SChk.mk rfl ?_ | refine SSame.mk rfl ?_ | refine SEx.of (hob _) ?_ | refine SEx.of (map_get' (by omega) hself) ?_ | refine SEx.of (map_get' (by omega) hlow) ?_ | refine SEx.of rfl ?_) <;> (conv => whnf)))
      refine SCall.mk (Pure.go (hg x y) rfl ?_)
      ((conv => whnf); repeat ((first | refine SIf.ff rfl ?_ | refine SIf.tt rfl ?_ | refine SOpt.of rfl ?_ | refine SChk.mk rfl ?_ | refine SSame.mk rfl ?_ | refine SEx.of rfl ?_) <;> (conv => whnf)))
      refine SIf.ds (fun hc => ?_) (fun hc => ?_)
      · ((conv => whnf); repeat ((first | refine SChk.ix (by omega) (by omega) ?_ | refine w64e (m := (j : Int)) (by omega) (by omega) (by omega) ?_ | refine SWrap.w64 (by omega) (by omega) ?_ | refine SIf.ff rfl ?_ | refine SIf.tt rfl ?_ | refine SOpt.of rfl ?_ | refine SChk.mk rfl ?_ | refine SSame.mk rfl ?_ | refine SEx.of (hob _) ?_ | refine SEx.of (map_get' (by omega) hself) ?_ | refine SEx.of (map_get' (by omega) hlow) ?_ | refine SEx.of (Heap.get_set_self (hob _)) ?_ | refine SEx.of (set_get' (by omega) (by omega) rfl hlow) ?_ | refine SEx.of rfl ?_) <;> (conv => whnf)))
        refine hR' j _ _ (by omega) ⟨j, by omega, rfl, (fun t z ht hz => ?_), (by repeat (first | exact Fr.le_nil | refine Fr.le_cons rfl ?_)), ?_⟩
        · by_cases htj : t = j
          · subst htj
            rw [hy] at hz
            cases hz
            rw [hlt]
            exact decide_eq_true hc
          · exact hall t z (by omega) hz
        · rw [← rowsAt_swap (by omega) hy]
          show gst (((h.set r (.arr 16 ((rowsAt pre x (j + 1) (l.drop (i + 1))).map podR))).set r (.arr 16 (((rowsAt pre x (j + 1) (l.drop (i + 1))).map podR).set (0 + ((j + 1 : Nat) : Int).toNat) (podR y)))).set r (.arr 16 ((((rowsAt pre x (j + 1) (l.drop (i + 1))).map podR).set (0 + ((j + 1 : Nat) : Int).toNat) (podR y)).set (0 + ((j : Nat) : Int).toNat) (podR x)))) = _
          exact two_set (by omega) (by omega)
      · ((conv => whnf); repeat ((first | refine SWrap.w64 (by omega) (by omega) ?_ | refine SIf.ff rfl ?_ | refine SIf.tt rfl ?_ | refine SOpt.of rfl ?_ | refine SChk.mk rfl ?_ | refine SSame.mk rfl ?_ | refine SEx.of rfl ?_) <;> (conv => whnf)))
        refine hR (l.length + 1 - (i + 1)) _ _ (by omega) ⟨i + 1, by omega, by omega, rfl, (by repeat (first | exact Fr.le_nil | refine Fr.le_cons rfl ?_)), ?_⟩
        rw [hend (j + 1) hj hall (fun z _ hz => by
          rw [Nat.add_sub_cancel, hy] at hz
          cases hz
          rw [hlt]
          exact decide_eq_false hc)]
  · ((conv => whnf); repeat ((first | refine SIf.ff rfl ?_ | refine SIf.tt rfl ?_ | refine SOpt.of rfl ?_ | refine SChk.mk rfl ?_ | refine SSame.mk rfl ?_ | refine SEx.of rfl ?_) <;> (conv => whnf)))
    have hn : l.length ≤ i := by omega
    rw [List.take_of_length_le hn, List.drop_of_length_le hn, List.append_nil]
    exact hK
end
end Go.Eng
