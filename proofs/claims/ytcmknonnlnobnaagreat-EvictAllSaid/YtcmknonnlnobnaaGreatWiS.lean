/-
The sort by insertion, of rows that are written to.
-/
import Derived.Test.YtcmknonnlnobnaaGreatWiA
import Derived.Test.YtcmknonnlnobnaaGreatFitW3
set_option linter.unusedVariables false
set_option linter.unusedSimpArgs false
set_option maxHeartbeats 8000000
set_option maxRecDepth 10000
namespace Go.Eng
open Go
section plain
variable {α : Type}
def rowsAt (pre : List α) (x : α) (j : Nat) (rest : List α) : List α := pre.take j ++ [x] ++ pre.drop j ++ rest
def insIx (lt : α → α → Bool) (pre : List α) (x : α) : Nat := pre.length - (pre.reverse.takeWhile (lt x)).length
def insD (lt : α → α → Bool) (pre : List α) (x : α) : List α := rowsAt pre x (insIx lt pre x) []
def isortD (lt : α → α → Bool) (l : List α) : List α := l.foldl (insD lt) []
theorem insIx_eq {lt : α → α → Bool} {pre : List α} {x : α} {j : Nat} (hj : j ≤ pre.length) (h : ∀ (t : Nat) (y : α), j ≤ t → pre[t]? = some y → lt x y = true) (h0 : ∀ y, 0 < j → pre[j - 1]? = some y → lt x y = false) : insIx lt pre x = j := by
 unfold insIx
 rw [takeWhile_at (i := pre.length - j) (by simp) (fun t y ht hy => ?_) (fun y hy => ?_)]
 · omega
 · rw [List.getElem?_reverse (by omega)] at hy
   exact h _ y (by omega) hy
 · have hlt := (List.getElem?_eq_some_iff.1 hy).1
   rw [List.length_reverse] at hlt
   rw [List.getElem?_reverse (by omega)] at hy
   exact h0 y (by omega) (by rw [← hy]; congr 1; omega)
theorem rowsAt_len (pre : List α) (x : α) (j : Nat) (rest : List α) : (rowsAt pre x j rest).length = pre.length + 1 + rest.length := by
 unfold rowsAt
 simp only [List.length_append, List.length_take, List.length_drop, List.length_cons, List.length_nil]; omega
theorem rowsAt_self {pre : List α} {x : α} {j : Nat} {rest : List α} (hj : j ≤ pre.length) : (rowsAt pre x j rest)[j]? = some x := by
 unfold rowsAt
 have h1 : (pre.take j).length = j := by rw [List.length_take]; omega
 rw [List.append_assoc, List.append_assoc, List.getElem?_append_right (by omega), h1, Nat.sub_self]; rfl
theorem rowsAt_lo {pre : List α} {x : α} {j t : Nat} {rest : List α} (hj : j ≤ pre.length) (ht : t < j) : (rowsAt pre x j rest)[t]? = pre[t]? := by
 unfold rowsAt
 have h1 : (pre.take j).length = j := by rw [List.length_take]; omega
 rw [List.append_assoc, List.append_assoc, List.getElem?_append_left (by omega), List.getElem?_take, if_pos ht]
theorem rowsAt_swap {pre : List α} {x y : α} {j : Nat} {rest : List α} (hj : j < pre.length) (hy : pre[j]? = some y) : ((rowsAt pre x (j + 1) rest).set (j + 1) y).set j x = rowsAt pre x j rest := by
 have e1 : pre.take (j + 1) = pre.take j ++ [y] := take_succ' hy
 have e2 : pre.drop j = y :: pre.drop (j + 1) := by
  rw [List.drop_eq_getElem_cons hj]
  rw [gE hj] at hy
  cases hy; rfl
 have h1 : (pre.take j).length = j := by rw [List.length_take]; omega
 unfold rowsAt
 rw [e1, e2]
 simp only [List.append_assoc, List.cons_append, List.nil_append]
 rw [List.set_append_right _ _ (by omega), List.set_append_right _ _ (by omega), h1]
 simp
theorem rowsAt_end (pre : List α) (x : α) (rest : List α) : rowsAt pre x pre.length rest = pre ++ x :: rest := by
 unfold rowsAt; simp
theorem insD_rest (lt : α → α → Bool) (pre : List α) (x : α) (rest : List α) : rowsAt pre x (insIx lt pre x) rest = insD lt pre x ++ rest := by
 unfold insD rowsAt; simp
theorem isortD_len (lt : α → α → Bool) : ∀ (l acc : List α), (l.foldl (insD lt) acc).length = acc.length + l.length
 | [], acc => by simp
 | x :: r, acc => by
   rw [List.foldl_cons, isortD_len lt r]
   unfold insD
   rw [rowsAt_len]; simp; omega
theorem isortD_snoc {lt : α → α → Bool} {l : List α} {i : Nat} {x : α} (hx : l[i]? = some x) : isortD lt (l.take (i + 1)) = insD lt (isortD lt (l.take i)) x := by
 unfold isortD
 rw [take_succ' hx, List.foldl_append]; rfl
theorem map_set_of {β : Type} {R : α → List β} {l : List α} {j : Nat} {x : α} : (l.map R).set j (R x) = (l.set j x).map R := by
 rw [List.map_set]
end plain
theorem find_upd_upd (n : Nat) (x y : Obj) : ∀ l, Heap.upd (Heap.upd l n x) n y = Heap.upd l n y
 | [] => rfl
 | (k, o) :: r => by
  by_cases hk : k = n
  · simp [Heap.upd, hk]
  · simp [Heap.upd, hk, find_upd_upd n x y r]
theorem heap_set2 (h : Heap) (n : Nat) (x y : Obj) : (h.set n x).set n y = h.set n y := by simp [Heap.set, find_upd_upd]
theorem find_upd_same {n : Nat} {x : Obj} : ∀ {l : List (Nat × Obj)}, Heap.find l n = some x → Heap.upd l n x = l
 | [], _ => rfl
 | (k, o) :: r, h => by
  by_cases hk : k = n
  · simp [Heap.find, hk] at h; simp [Heap.upd, hk, h]
  · simp [Heap.find, hk] at h; simp [Heap.upd, hk, find_upd_same h]
theorem heap_set_same {h : Heap} {n : Nat} {x : Obj} (hx : h.get n = some x) : h.set n x = h := by
 unfold Heap.get at hx
 simp [Heap.set, find_upd_same hx]
theorem w64e {n m : Int} {k : Int → Prop} (e : n = m) (h1 : -9223372036854775808 ≤ m) (h2 : m ≤ 9223372036854775807) (hk : k m) : SWrap .i64 n k := by
 subst e; exact .w64 h1 h2 hk
theorem set_get' {α β : Type} {R : α → List β} {l : List α} {a b j : Nat} {e : List β} {y : α} (hab : a ≠ b) (hb : b = j) (h : a = a) (hj : l[j]? = some y) : ((l.map R).set a e)[b]? = some (R y) := by
 subst hb
 rw [List.getElem?_set_ne hab]
 exact map_get hj
theorem two_set {h : Heap} {r a b i j : Nat} {l : List PodD} {x y : PodD} {o o' : Obj} (ha : a = i) (hb : b = j) :
 gst (((h.set r o').set r o).set r (.arr 16 (((l.map podR).set a (podR y)).set b (podR x)))) = gst (h.set r (.arr 16 (((l.set i y).set j x).map podR))) := by
 subst ha; subst hb
 rw [heap_set2, heap_set2, List.map_set, List.map_set]
section
variable {P : Program} (hG : FnsOk P AF.fns.get)
include hG
theorem isortm_pod (c : PodD → PodD → Int) (g : Nat) (hg : ∀ a b : PodD, Pure P g [.agg (podR a), .agg (podR b)] (· = .i .i64 (c a b))) (l : List PodD) (hl : l.length ≤ 1000000) {r : Nat} {h : Heap} (hr : h.get r = some (.arr 16 (l.map podR))) {K : V → Heap → Prop}
 (hK : K (.tup []) (h.set r (.arr 16 ((isortD (fun a b => decide (c a b < 0)) l).map podR)))) :
 ACall P 221 [.ms (.g r) 16 0 l.length, .i .i64 0, .i .i64 l.length, .fn g [] []] h K := by
 obtain ⟨lt, hlt⟩ : ∃ lt : PodD → PodD → Bool, lt = fun a b => decide (c a b < 0) := ⟨_, rfl⟩
 rw [← hlt] at hK
 refine fn_sp (hG _ AF.f221 rfl) rfl ?_
 ((conv => whnf); repeat ((first | refine SWrap.w64 (by omega) (by omega) ?_ | refine SIf.ff rfl ?_ | refine SIf.tt rfl ?_ | refine SOpt.of rfl ?_ | refine SChk.mk rfl ?_ | refine SSame.mk rfl ?_ | refine ye rfl ?_) <;> (conv => whnf)))
 refine SLoop.by (fun q fr st => ∃ i : Nat, 1 ≤ i ∧ i ≤ l.length + 1 ∧ q = l.length + 1 - i ∧
  Fr.le [(8, .i .i64 i), (3, .fn g [] []), (2, .i .i64 l.length), (1, .i .i64 0), (0, .ms (.g r) 16 0 l.length)] fr ∧ st = gst (h.set r (.arr 16 ((isortD lt (l.take i) ++ l.drop i).map podR))))
  l.length ⟨1, by omega, by omega, by omega, fle, ?_⟩ ?_
 · have e : isortD lt (l.take 1) ++ l.drop 1 = l := by
    cases l with
    | nil => rfl
    | cons x r => simp [isortD, insD, rowsAt, insIx]
   rw [e, heap_set_same hr]
 rintro q fr st ⟨i, hi1, hi, rfl, hle, rfl⟩
 refine ⟨_, hle, fun R hR => ?_⟩
 ((conv => whnf); repeat ((first | refine SIf.ff rfl ?_ | refine SIf.tt rfl ?_ | refine SOpt.of rfl ?_ | refine SChk.mk rfl ?_ | refine SSame.mk rfl ?_ | refine ye rfl ?_) <;> (conv => whnf)))
 refine SIf.ds (fun hlt' => ?_) (fun hge => ?_)
 · have hi' : i < l.length := by omega
   have hx := gE hi'
   generalize l[i] = x at hx
   obtain ⟨pre, hpre⟩ : ∃ pre, pre = isortD lt (l.take i) := ⟨_, rfl⟩
   have hpl : pre.length = i := by rw [hpre]; unfold isortD; rw [isortD_len]; simp; omega
   have hdrop : l.drop i = x :: l.drop (i + 1) := by
    rw [List.drop_eq_getElem_cons hi']
    rw [gE hi'] at hx
    cases hx; rfl
   ((conv => whnf); repeat ((first | refine SIf.ff rfl ?_ | refine SIf.tt rfl ?_ | refine SOpt.of rfl ?_ | refine SChk.mk rfl ?_ | refine SSame.mk rfl ?_ | refine ye rfl ?_) <;> (conv => whnf)))
   refine SLoop.by (fun q fr st => ∃ j : Nat, j ≤ i ∧ j = q ∧ (∀ (t : Nat) (y : PodD), j ≤ t → pre[t]? = some y → lt x y = true) ∧
    Fr.le [(9, .i .i64 j), (8, .i .i64 i), (3, .fn g [] []), (2, .i .i64 l.length), (1, .i .i64 0), (0, .ms (.g r) 16 0 l.length)] fr ∧ st = gst (h.set r (.arr 16 ((rowsAt pre x j (l.drop (i + 1))).map podR))))
    i ⟨i, by omega, rfl, (fun t y ht hy => by have := (List.getElem?_eq_some_iff.1 hy).1; omega), fle, ?_⟩ ?_
   · rw [hdrop, ← hpre]
     have he := rowsAt_end pre x (l.drop (i + 1))
     rw [hpl] at he
     rw [he]
   rintro q fr st ⟨j, hj, rfl, hall, hle2, rfl⟩
   refine ⟨_, hle2, fun R' hR' => ?_⟩
   have hob : ∀ rows : List PodD, (h.set r (.arr 16 (rows.map podR))).get r = some (.arr 16 (rows.map podR)) := fun rows => Heap.get_set_self hr
   have hrl : (rowsAt pre x j (l.drop (i + 1))).length = l.length := by rw [rowsAt_len, List.length_drop]; omega
   have hself : (rowsAt pre x j (l.drop (i + 1)))[j]? = some x := rowsAt_self (by omega)
   have hend : ∀ k : Nat, k ≤ i → (∀ (t : Nat) (y : PodD), k ≤ t → pre[t]? = some y → lt x y = true) → (∀ y, 0 < k → pre[k - 1]? = some y → lt x y = false) → rowsAt pre x k (l.drop (i + 1)) = isortD lt (l.take (i + 1)) ++ l.drop (i + 1) := fun k hk h1 h2 => by
    rw [isortD_snoc hx, ← hpre, ← insD_rest, insIx_eq (by omega) h1 h2]
   cases j with
   | zero =>
     ((conv => whnf); repeat ((first | refine SWrap.w64 (by omega) (by omega) ?_ | refine SIf.ff rfl ?_ | refine SIf.tt rfl ?_ | refine SOpt.of rfl ?_ | refine SChk.mk rfl ?_ | refine SSame.mk rfl ?_ | refine ye rfl ?_) <;> (conv => whnf)))
     refine hR (l.length + 1 - (i + 1)) _ _ (by omega) ⟨i + 1, by omega, by omega, rfl, fle, ?_⟩
     rw [hend 0 (by omega) hall (fun y h => by omega)]
   | succ j =>
     have hlow : (rowsAt pre x (j + 1) (l.drop (i + 1)))[j]? = pre[j]? := rowsAt_lo (by omega) (by omega)
     have hy := gE (show j < pre.length by omega)
     generalize pre[j]'(by omega) = y at hy
     rw [hy] at hlow
     ((conv => whnf); repeat ((first | refine SIf.dt (by omega) ?_ | refine SChk.ix (by omega) (by omega) ?_ | refine SWrap.w64 (by omega) (by omega) ?_ | refine SIf.ff rfl ?_ | refine SIf.tt rfl ?_ | refine SOpt.of rfl ?_ | refine SChk.mk rfl ?_ | refine SSame.mk rfl ?_ | refine ye (hob _) ?_ | refine ye (map_get' (by omega) hself) ?_ | refine ye (map_get' (by omega) hlow) ?_ | refine ye rfl ?_) <;> (conv => whnf)))
     refine SCall.mk (Pure.go (hg x y) rfl ?_)
     ((conv => whnf); repeat ((first | refine SIf.ff rfl ?_ | refine SIf.tt rfl ?_ | refine SOpt.of rfl ?_ | refine SChk.mk rfl ?_ | refine SSame.mk rfl ?_ | refine ye rfl ?_) <;> (conv => whnf)))
     refine SIf.ds (fun hc => ?_) (fun hc => ?_)
     · ((conv => whnf); repeat ((first | refine SChk.ix (by omega) (by omega) ?_ | refine w64e (m := (j : Int)) (by omega) (by omega) (by omega) ?_ | refine SWrap.w64 (by omega) (by omega) ?_ | refine SIf.ff rfl ?_ | refine SIf.tt rfl ?_ | refine SOpt.of rfl ?_ | refine SChk.mk rfl ?_ | refine SSame.mk rfl ?_ | refine ye (hob _) ?_ | refine ye (map_get' (by omega) hself) ?_ | refine ye (map_get' (by omega) hlow) ?_ | refine ye (Heap.get_set_self (hob _)) ?_ | refine ye (set_get' (by omega) (by omega) rfl hlow) ?_ | refine ye rfl ?_) <;> (conv => whnf)))
       refine hR' j _ _ (by omega) ⟨j, by omega, rfl, (fun t z ht hz => ?_), fle, ?_⟩
       · by_cases htj : t = j
         · subst htj
           rw [hy] at hz
           cases hz
           rw [hlt]
           exact decide_eq_true hc
         · exact hall t z (by omega) hz
       · rw [← rowsAt_swap (by omega) hy]
         show gst (((h.set r (.arr 16 ((rowsAt pre x (j + 1) (l.drop (i + 1))).map podR))).set r (.arr 16 (((rowsAt pre x (j + 1) (l.drop (i + 1))).map podR).set (0 + ((j + 1 : Nat) : Int).toNat) (podR y)))).set r (.arr 16 ((((rowsAt pre x (j + 1) (l.drop (i + 1))).map podR).set (0 + ((j + 1 : Nat) : Int).toNat) (podR y)).set (0 + ((j : Nat) : Int).toNat) (podR x)))) = _
         exact two_set (by omega) (by omega)
     · ((conv => whnf); repeat ((first | refine SWrap.w64 (by omega) (by omega) ?_ | refine SIf.ff rfl ?_ | refine SIf.tt rfl ?_ | refine SOpt.of rfl ?_ | refine SChk.mk rfl ?_ | refine SSame.mk rfl ?_ | refine ye rfl ?_) <;> (conv => whnf)))
       refine hR (l.length + 1 - (i + 1)) _ _ (by omega) ⟨i + 1, by omega, by omega, rfl, fle, ?_⟩
       rw [hend (j + 1) hj hall (fun z _ hz => by
         rw [Nat.add_sub_cancel, hy] at hz
         cases hz
         rw [hlt]
         exact decide_eq_false hc)]
 · ((conv => whnf); repeat ((first | refine SIf.ff rfl ?_ | refine SIf.tt rfl ?_ | refine SOpt.of rfl ?_ | refine SChk.mk rfl ?_ | refine SSame.mk rfl ?_ | refine ye rfl ?_) <;> (conv => whnf)))
   have hn : l.length ≤ i := by omega
   rw [List.take_of_length_le hn, List.drop_of_length_le hn, List.append_nil]
   exact hK
end
end Go.Eng
/-
Who waits: by priority, then by who was first.
-/
namespace Go.Eng
open Go
def cmpI (x y : Int) : Int := if x < y then -1 else if y < x then 1 else 0
section
variable {P : Program} (hG : FnsOk P AF.fns.get)
include hG
theorem cmpInt_ok (x y : Int) : Pure P 46 [.i .i64 x, .i .i64 y] (· = .i .i64 (cmpI x y)) := by
 refine pure_fn (hG _ AF.f46 rfl) rfl ?_
 ((conv => whnf); repeat' ((first | refine cA (fn_sf (hG _ _ rfl) rfl) ?_ | refine zz ?_ | refine SLoopZ.un rfl ?_ | refine SIf.ds (fun _ => ?_) (fun _ => ?_) | refine SIf.ns (fun _ => ?_) (fun _ => ?_) | refine SIf.mk (fun _ => ?_) (fun _ => ?_) | (intro r hr; cases r)) <;> (conv => whnf)))
 all_goals (refine pure_free rfl ?_)
 all_goals (unfold cmpI; simp_all)
 all_goals omega
theorem stablec_pod (c : PodD → PodD → Int) (g : Nat) (hg : ∀ a b : PodD, Pure P g [.agg (podR a), .agg (podR b)] (· = .i .i64 (c a b))) (l : List PodD) (hl : l.length ≤ 19) {r : Nat} {h : Heap} (hr : h.get r = some (.arr 16 (l.map podR))) {K : V → Heap → Prop}
 (hK : K (.tup []) (h.set r (.arr 16 ((isortD (fun a b => decide (c a b < 0)) l).map podR)))) :
 ACall P 115 [.ms (.g r) 16 0 l.length, .i .i64 l.length, .fn g [] []] h K := by
 refine fn_sp (hG _ AF.f115 rfl) rfl ?_
 ((conv => whnf); repeat ((first | refine SLoop.un ?_ | refine SIf.df (by omega) ?_ | refine cA (isortm_pod hG c g hg l (by omega) hr) ?_ | refine SIf.ff rfl ?_ | refine SIf.tt rfl ?_ | refine SOpt.of rfl ?_ | refine SChk.mk rfl ?_ | refine SSame.mk rfl ?_ | refine ye rfl ?_) <;> (conv => whnf)))
 exact hK
theorem stable_pod (c : PodD → PodD → Int) (g : Nat) (hg : ∀ a b : PodD, Pure P g [.agg (podR a), .agg (podR b)] (· = .i .i64 (c a b))) (l : List PodD) (hl : l.length ≤ 19) {r : Nat} {h : Heap} (hr : h.get r = some (.arr 16 (l.map podR))) {K : V → Heap → Prop}
 (hK : K (.tup []) (h.set r (.arr 16 ((isortD (fun a b => decide (c a b < 0)) l).map podR)))) :
 ACall P 44 [.ms (.g r) 16 0 l.length, .fn g [] []] h K := by
 refine fn_sp (hG _ AF.f44 rfl) rfl ?_
 ((conv => whnf); repeat ((first | refine cA (stablec_pod hG c g hg l hl hr) ?_ | refine SIf.ff rfl ?_ | refine SIf.tt rfl ?_ | refine SOpt.of rfl ?_ | refine SChk.mk rfl ?_ | refine SSame.mk rfl ?_ | refine ye rfl ?_) <;> (conv => whnf)))
 exact hK
end
end Go.Eng
/-
The sort by insertion: nothing is lost, and it is sorted.
-/
namespace Go.Eng
open Go
section plain
variable {α : Type} {lt : α → α → Bool}
theorem dropWhile_head {f : α → Bool} : ∀ {l : List α} {y : α} {r : List α}, l.dropWhile f = y :: r → f y = false
 | [], _, _, h => by simp at h
 | a :: l, y, r, h => by
   cases hf : f a with
   | true =>
     rw [List.dropWhile_cons, if_pos hf] at h
     exact dropWhile_head h
   | false =>
     rw [List.dropWhile_cons, if_neg (by simp [hf])] at h
     cases h
     exact hf
theorem mem_takeWhile {f : α → Bool} : ∀ {l : List α} {y : α}, y ∈ l.takeWhile f → f y = true
 | [], _, h => by simp at h
 | a :: l, y, h => by
   cases hf : f a with
   | true =>
     rw [List.takeWhile_cons, if_pos hf] at h
     cases h with
     | head => exact hf
     | tail _ h => exact mem_takeWhile h
   | false =>
     rw [List.takeWhile_cons, if_neg (by simp [hf])] at h
     cases h
theorem insD_cut (pre : List α) (x : α) : ∃ A B, pre = A ++ B ∧ insD lt pre x = A ++ x :: B ∧ (∀ b ∈ B, lt x b = true) ∧ (A = [] ∨ ∃ A' y, A = A' ++ [y] ∧ lt x y = false) := by
 have h0 := List.takeWhile_append_dropWhile (p := lt x) (l := pre.reverse)
 obtain ⟨tw, htw⟩ : ∃ tw, tw = pre.reverse.takeWhile (lt x) := ⟨_, rfl⟩
 obtain ⟨dw, hdw⟩ : ∃ dw, dw = pre.reverse.dropWhile (lt x) := ⟨_, rfl⟩
 rw [← htw, ← hdw] at h0
 have hp : pre = dw.reverse ++ tw.reverse := by
  have := congrArg List.reverse h0
  rw [List.reverse_append, List.reverse_reverse] at this
  exact this.symm
 have hk : insIx lt pre x = dw.reverse.length := by
  unfold insIx
  rw [← htw, hp]
  simp
 refine ⟨dw.reverse, tw.reverse, hp, ?_, fun b hb => ?_, ?_⟩
 · unfold insD rowsAt
   rw [hk, hp]
   simp
 · rw [List.mem_reverse, htw] at hb
   exact mem_takeWhile hb
 · cases hd : dw with
   | nil => exact .inl rfl
   | cons y r =>
     refine .inr ⟨r.reverse, y, by simp, ?_⟩
     rw [hdw] at hd
     exact dropWhile_head hd
theorem insD_perm (pre : List α) (x : α) : (insD lt pre x).Perm (x :: pre) := by
 obtain ⟨A, B, h1, h2, _⟩ := insD_cut (lt := lt) pre x
 rw [h2, h1]
 exact List.perm_middle
theorem foldl_perm : ∀ (l acc : List α), (l.foldl (insD lt) acc).Perm (acc ++ l)
 | [], acc => by simp
 | x :: r, acc => by
   rw [List.foldl_cons]
   refine (foldl_perm r _).trans ?_
   refine ((insD_perm acc x).append_right r).trans ?_
   exact (List.perm_middle (l₁ := acc) (l₂ := r)).symm
theorem isortD_perm (l : List α) : (isortD lt l).Perm l := by
 have := foldl_perm (lt := lt) l []
 simpa [isortD] using this
theorem insD_sorted (ha : ∀ a b, lt a b = true → lt b a = false) (ht : ∀ a b c, lt a b = false → lt b c = false → lt a c = false) {pre : List α} (hp : pre.Pairwise fun a b => lt b a = false) (x : α) : (insD lt pre x).Pairwise fun a b => lt b a = false := by
 obtain ⟨A, B, h1, h2, h3, h4⟩ := insD_cut (lt := lt) pre x
 rw [h2]
 rw [h1] at hp
 obtain ⟨p1, p2, p3⟩ := List.pairwise_append.1 hp
 have hA : ∀ a ∈ A, lt x a = false := by
  rcases h4 with rfl | ⟨A', y, rfl, hy⟩
  · intro a h; cases h
  · intro a h
    rcases List.mem_append.1 h with h | h
    · exact ht x y a hy ((List.pairwise_append.1 p1).2.2 a h y (by simp))
    · rw [List.mem_singleton.1 h]; exact hy
 refine List.pairwise_append.2 ⟨p1, List.pairwise_cons.2 ⟨fun b hb => ha x b (h3 b hb), p2⟩, fun a h b hb => ?_⟩
 cases hb with
 | head => exact hA a h
 | tail _ hb => exact p3 a h b hb
theorem foldl_sorted (ha : ∀ a b, lt a b = true → lt b a = false) (ht : ∀ a b c, lt a b = false → lt b c = false → lt a c = false) : ∀ (l acc : List α), (acc.Pairwise fun a b => lt b a = false) → (l.foldl (insD lt) acc).Pairwise fun a b => lt b a = false
 | [], acc, h => h
 | x :: r, acc, h => by
   rw [List.foldl_cons]
   exact foldl_sorted ha ht r _ (insD_sorted ha ht h x)
theorem isortD_sorted (ha : ∀ a b, lt a b = true → lt b a = false) (ht : ∀ a b c, lt a b = false → lt b c = false → lt a c = false) (l : List α) : (isortD lt l).Pairwise fun a b => lt b a = false := foldl_sorted ha ht l [] List.Pairwise.nil
end plain
end Go.Eng
/-
Who has to go, in plain lists.
-/
namespace Go.Eng
open Go
theorem without_congr {s : StD} {l q : List Str} (h : ∀ x, x ∈ l ↔ x ∈ q) : withoutD s l = withoutD s q := by
 unfold withoutD
 congr 1
 refine List.filter_congr fun a _ => ?_
 congr 1
 rw [Bool.eq_iff_iff, List.any_eq_true, List.any_eq_true]
 exact ⟨fun ⟨x, h1, h2⟩ => ⟨x, (h x).1 h1, h2⟩, fun ⟨x, h1, h2⟩ => ⟨x, (h x).2 h1, h2⟩⟩
def cmpV (a b : PodD) : Int := if cmpI b.prio a.prio = 0 then cmpB a.name b.name else cmpI b.prio a.prio
def lowerD (s : StD) (p : PodD) (node : Str) : List PodD := isortD (fun a b => decide (cmpV a b < 0)) ((onD s node).filter fun q => !decide (p.prio ≤ q.prio))
def lessG (gone : List Str) (q : PodD) : List Str := gone.filter fun n => !(n == q.name)
def keepGo (s : StD) (p : PodD) (node : Str) : List PodD → List Str → List Str
 | [], gone => gone
 | q :: r, gone => keepGo s p node r (if feasD (withoutD s (lessG gone q)) p node then lessG gone q else gone)
def sortE (l : List Str) : List Str := l.mergeSort fun x y => !decide (cmpB y x < 0)
def victD (s : StD) (p : PodD) (node : Str) : Option (List Str) :=
 if feasD (withoutD s ((lowerD s p node).map (·.name))) p node then some (sortE (keepGo s p node (lowerD s p node) ((lowerD s p node).map (·.name)))) else none
theorem mem_sortE {l : List Str} {x : Str} : x ∈ sortE l ↔ x ∈ l := (List.mergeSort_perm l _).mem_iff
end Go.Eng
