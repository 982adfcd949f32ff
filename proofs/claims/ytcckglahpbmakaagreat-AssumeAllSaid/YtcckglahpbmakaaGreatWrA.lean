/-
The table of letters: which digit each byte is, which byte each digit.
-/
import Derived.Test.YtcckglahpbmakaaGreatNOa
import Derived.Test.YtcckglahpbmakaaGreatEngC
import Derived.Test.YtcckglahpbmakaaGreatArgX
set_option linter.unusedVariables false
set_option linter.unusedSimpArgs false
namespace Go.Eng
open Go
def digitB (c : Nat) : Nat := if 97 ≤ c ∧ c < 123 then c - 96 else if 48 ≤ c ∧ c < 58 then c - 21 else if c = 45 then 37 else 0
def backB (d : Nat) : Nat := if 1 ≤ d ∧ d ≤ 26 then d + 96 else if 27 ≤ d ∧ d ≤ 36 then d + 21 else if d = 37 then 45 else 0
theorem digit_small {c : Nat} (h : 0 < digitB c) : c < 256 := by
  unfold digitB at h
  split at h
  · omega
  · split at h
    · omega
    · split at h <;> omega
set_option maxRecDepth 10000 in
theorem back_digit (c : Nat) (h : 0 < digitB c) : backB (digitB c) = c :=
  (show ∀ c, c < 256 → 0 < digitB c → backB (digitB c) = c by decide) c (digit_small h) h
theorem set_mid {α : Type} {A B C : List α} {n k : Nat} {v : α} (hn : n = A.length + k) (hk : k < B.length) : (A ++ (B ++ C)).set n v = A ++ (B.set k v ++ C) := by
  subst hn
  rw [List.set_append_right _ _ (by omega), List.set_append_left _ _ (by omega), Nat.add_sub_cancel_left]
theorem digit_le (c : Nat) : digitB c ≤ 37 := by
  unfold digitB
  split
  · omega
  · split
    · omega
    · split <;> omega
def tabOf (n c : Nat) : Nat := if digitB c ≤ n then digitB c else 0
def tabBack (n d : Nat) : Nat := if d ≤ n then backB d else 0
def tabV (d l : Int) (n : Nat) : List V := [.i .u32 d, .i .i32 l, .i .u32 0] ++ ((List.range 256).map fun c => V.i .u64 (tabOf n c)) ++ ((List.range 38).map fun j => V.i .u8 (tabBack n j))
theorem tabV_len (d l : Int) (n : Nat) : (tabV d l n).length = 297 := by simp [tabV]
theorem range_set {α : Type} (f g : Nat → α) (n i : Nat) (v : α) (hv : i < n → g i = v) (h : ∀ j, j ≠ i → g j = f j) : ((List.range n).map f).set i v = (List.range n).map g := by
  apply List.ext_getElem?
  intro j
  rw [List.getElem?_set]
  split
  · rename_i hij
    subst hij
    by_cases hi : i < n
    · simp [hi, hv hi]
    · simp [hi]
  · rename_i hij
    by_cases hj : j < n
    · simp [hj, h j (Ne.symm hij)]
    · simp [hj]
theorem tab_add (d l : Int) (m b : Nat) (R : List V) (hb : b < 256) (hd : digitB b = m + 1) : ((tabV d l m ++ R).set (3 + b) (.i .u64 ((m + 1 : Nat) : Int))).set (259 + (m + 1)) (.i .u8 (b : Int)) = tabV d l (m + 1) ++ R := by
  have hm : m + 1 ≤ 37 := by have := digit_le b; omega
  have hbk : backB (m + 1) = b := by rw [← hd]; exact back_digit b (by omega)
  have e1 : ((List.range 256).map fun c => V.i .u64 (tabOf m c)).set b (.i .u64 ((m + 1 : Nat) : Int)) = (List.range 256).map fun c => V.i .u64 (tabOf (m + 1) c) := by
    refine range_set _ _ _ _ _ (fun _ => ?_) (fun j hj => ?_)
    · show V.i .u64 (((if digitB b ≤ m + 1 then digitB b else 0 : Nat)) : Int) = _
      rw [if_pos (by omega), hd]
    · have hne : digitB j ≠ m + 1 := by
        intro hc
        have h1 := back_digit j (by omega)
        rw [hc, hbk] at h1
        exact hj h1.symm
      show V.i .u64 _ = V.i .u64 _
      congr 2
      unfold tabOf
      by_cases h1 : digitB j ≤ m
      · rw [if_pos h1, if_pos (by omega)]
      · rw [if_neg h1, if_neg (by omega)]
  have e2 : ((List.range 38).map fun j => V.i .u8 (tabBack m j)).set (m + 1) (.i .u8 (b : Int)) = (List.range 38).map fun j => V.i .u8 (tabBack (m + 1) j) := by
    refine range_set _ _ _ _ _ (fun _ => ?_) (fun j hj => ?_)
    · show V.i .u8 (((if m + 1 ≤ m + 1 then backB (m + 1) else 0 : Nat)) : Int) = _
      rw [if_pos (Nat.le_refl _), hbk]
    · show V.i .u8 _ = V.i .u8 _
      congr 2
      unfold tabBack
      by_cases h1 : j ≤ m
      · rw [if_pos h1, if_pos (by omega)]
      · rw [if_neg h1, if_neg (by omega)]
  unfold tabV
  rw [← e1, ← e2]
  generalize hB : ((List.range 256).map fun c => V.i .u64 (tabOf m c)) = B
  generalize hC : ((List.range 38).map fun j => V.i .u8 (tabBack m j)) = C
  have hBl : B.length = 256 := by rw [← hB]; simp
  have hCl : C.length = 38 := by rw [← hC]; simp
  rw [List.append_assoc, List.append_assoc, set_mid (k := b) (by first | (simp; done) | (simp; omega)) (by omega), ← List.append_assoc, set_mid (k := m + 1) (by first | (simp [hBl]; done) | (simp [hBl]; omega)) (by omega)]
  simp only [List.append_assoc]
end Go.Eng
/-
The table of letters is made, once.
-/
namespace Go.Eng
open Go
theorem Heap.Keeps.in3 {b : Nat → Prop} {h : Heap} {x y z : Nat} (hx : b x) (hy : b y) (hz : b z) (o o2 o3 : Obj) : Heap.Keeps b h (((h.set x o).set y o2).set z o3) :=
  Heap.Keeps.set (b := b) (Heap.Keeps.set (b := b) (Heap.Keeps.set (b := b) (.refl _ _) (.inl hx) o) (.inl hy) o2) (.inl hz) o3
section
variable {P : Program} (hG : FnsOk P AF.fns.get)
include hG
theorem tadd_at {h : Heap} {kn kv a m b : Nat} {d l : Int} {R : List V} (h1 : h.get kn = some (.cs [.i .u64 (m : Nat)])) (h2 : h.get kv = some (.cs [.p (.g a) 0])) (h3 : h.get a = some (.cs (tabV d l m ++ R))) (hna : kn ≠ a) (hva : kv ≠ a) (hnv : kn ≠ kv)
    (hb : b < 256) (hd : digitB b = m + 1) {K : V → Heap → Prop}
    (hK : ∀ h', h'.get kn = some (.cs [.i .u64 ((m + 1 : Nat) : Int)]) → h'.get a = some (.cs (tabV d l (m + 1) ++ R)) → Heap.Keeps (fun n => n = kn ∨ n = a) h h' → K (.tup []) h') : ACall P 163 [.i .u8 (b : Nat), .p (.g kn) 0, .p (.g kv) 0] h K := by
  have hm : m + 1 ≤ 37 := by have := digit_le b; omega
  refine fn_sp (hG _ AF.f163 rfl) rfl ?_
  have g1 : ∀ o, (h.set kn o).get kv = some (.cs [.p (.g a) 0]) := fun o => Heap.gs (Ne.symm hnv) h2
  have g2 : ∀ o, (h.set kn o).get a = some (.cs (tabV d l m ++ R)) := fun o => Heap.gs (Ne.symm hna) h3
  have g3 : ∀ o, (h.set kn o).get kn = some o := fun o => Heap.get_set_self h1
  have g4 : ∀ o o2, ((h.set kn o).set a o2).get a = some o2 := fun o o2 => Heap.get_set_self (g2 _)
  have g5 : ∀ o o2, ((h.set kn o).set a o2).get kv = some (.cs [.p (.g a) 0]) := fun o o2 => Heap.gs hva (g1 _)
  have g6 : ∀ o o2, ((h.set kn o).set a o2).get kn = some o := fun o o2 => Heap.gs hna (g3 _)
  have g7 : ∀ o o2 o3, (((h.set kn o).set a o2).set a o3).get kn = some o := fun o o2 o3 => Heap.gs hna (g6 _ _)
  have g8 : ∀ o o2 o3, (((h.set kn o).set a o2).set a o3).get a = some o3 := fun o o2 o3 => Heap.get_set_self (g4 _ _)
  have hlen : (tabV d l m ++ R).length = 297 + R.length := by rw [List.length_append, tabV_len]
  have e1 : stCells (tabV d l m ++ R) (0 + 3 + ((b : Nat) : Int).toNat * 1) [.i .u64 ((m : Int) + 1)] = (tabV d l m ++ R).set (3 + b) (.i .u64 ((m + 1 : Nat) : Int)) := by
    show (tabV d l m ++ R).set _ _ = _
    rw [show 0 + 3 + ((b : Nat) : Int).toNat * 1 = 3 + b by omega]; rfl
  have e2 : stCells ((tabV d l m ++ R).set (3 + b) (.i .u64 ((m + 1 : Nat) : Int))) (0 + 259 + ((m : Int) + 1).toNat * 1) [.i .u8 (b : Nat)] = tabV d l (m + 1) ++ R := by
    rw [← tab_add d l m b R hb hd]
    show List.set _ _ _ = _
    rw [show 0 + 259 + ((m : Int) + 1).toNat * 1 = 259 + (m + 1) by omega]
  ((conv => whnf); repeat ((first | refine SWrap.wu (by omega) (by omega) ?_ | refine SChk.ix (by omega) (by omega) ?_ | refine SChk.mk (decide_eq_true (by rw [hlen]; show 0 + 3 + ((b : Nat) : Int).toNat * 1 + 1 ≤ _; omega)) ?_ | refine SChk.mk (decide_eq_true (by rw [List.length_set, hlen]; show 0 + 259 + ((m : Int) + 1).toNat * 1 + 1 ≤ _; omega)) ?_ | refine SEx.of (congrArg some e1) ?_ | refine SEx.of (congrArg some e2) ?_ | refine SEx.of (h1) ?_ | refine SEx.of (g1 _) ?_ | refine SEx.of (g2 _) ?_ | refine SEx.of (g3 _) ?_ | refine SEx.of (g4 _ _) ?_ | refine SEx.of (g5 _ _) ?_ | refine SEx.of (g6 _ _) ?_ | refine yf rfl ?_ | refine yt rfl ?_ | refine yo rfl ?_ | refine yc rfl ?_ | refine ys rfl ?_ | refine ye rfl ?_ | refine yn rfl ?_ | refine zw ?_ | refine zdt ?_ | refine zdf ?_ | refine znt ?_ | refine znf ?_ | refine zcd ?_ | refine zci ?_ | refine zc3 ?_) <;> (conv => whnf)))
  exact hK _ (g7 _ _ _) (g8 _ _ _) (Heap.Keeps.in3 (.inl rfl) (.inr rfl) (.inr rfl) _ _ _)
set_option maxHeartbeats 4000000 in
theorem tmake1_at {h : Heap} {kv a : Nat} {d l : Int} {R : List V} (h2 : h.get kv = some (.cs [.p (.g a) 0])) (h3 : h.get a = some (.cs (tabV d l 0 ++ R))) (hv : kv < h.next) (ha : a < h.next) (hva : kv ≠ a) {K : V → Heap → Prop}
    (hK : ∀ h', h'.get a = some (.cs (tabV d l 37 ++ R)) → Heap.Keeps (fun n => n = a) h h' → K (.tup []) h') : ACall P 162 [.p (.g kv) 0] h K := by
  refine fn_sp (hG _ AF.f162 rfl) rfl ?_
  ((conv => whnf); repeat ((first | refine SEx.of (Heap.get_push_self _ _) ?_ | refine yf rfl ?_ | refine yt rfl ?_ | refine yo rfl ?_ | refine yc rfl ?_ | refine ys rfl ?_ | refine ye rfl ?_ | refine yn rfl ?_ | refine zw ?_ | refine zdt ?_ | refine zdf ?_ | refine znt ?_ | refine znf ?_ | refine zcd ?_ | refine zci ?_ | refine zc3 ?_) <;> (conv => whnf)))
  refine SLoop.by (fun q fr st => ∃ (i : Nat) (hh lo : Heap), i ≤ 26 ∧ q = 26 - i ∧ h.next < hh.next ∧ hh.get h.next = some (.cs [.i .u64 (i : Nat)]) ∧ hh.get a = some (.cs (tabV d l i ++ R)) ∧ Heap.Keeps (fun n => n = a ∨ n = h.next) h hh ∧
      Fr.le [(6, .i .u8 i), (2, .fn 163 [] [.p (.g h.next) 0, .p (.g kv) 0])] fr ∧ st = ⟨hh, lo⟩)
    26 ⟨0, _, _, by omega, rfl, Nat.lt_succ_self _, Heap.get_set_self (Heap.get_push_self _ _), Heap.gs (by omega) (Heap.gp (by omega) h3), .set (.push (.refl _ _) _) (.inr (Nat.le_refl _)) _, (by repeat (first | exact Fr.le_nil | refine Fr.le_cons rfl ?_)), rfl⟩ ?_
  rintro q fr st ⟨i, hh, lo, hi, rfl, hn, g1, g3, hk, hle0, rfl⟩
  refine ⟨_, hle0, fun R1 hR => ?_⟩
  have g2 : hh.get kv = some (.cs [.p (.g a) 0]) := by rw [hk.2 kv hv (by rintro (h | h) <;> omega)]; exact h2
  by_cases hin : i < 26
  · have hadd := fun K hK => tadd_at (K := K) hG g1 g2 g3 (by omega) hva (by omega) (show 97 + i < 256 by omega) (show digitB (97 + i) = i + 1 by unfold digitB; rw [if_pos (by omega)]; omega) hK
    have hb : ((97 + i : Nat) : Int) = 97 + (i : Int) := by omega
    rw [hb] at hadd
    ((conv => whnf); repeat ((first | refine SIf.dt (show (i : Int) < 26 by omega) ?_ | refine SWrap.of (by show (0 : Int) ≤ _; omega) (by show _ ≤ (255 : Int); omega) ?_ | refine SCall.app (hadd _) ?_ | refine yf rfl ?_ | refine yt rfl ?_ | refine yo rfl ?_ | refine yc rfl ?_ | refine ys rfl ?_ | refine ye rfl ?_ | refine yn rfl ?_ | refine zw ?_ | refine zdt ?_ | refine zdf ?_ | refine znt ?_ | refine znf ?_ | refine zcd ?_ | refine zci ?_ | refine zc3 ?_) <;> (conv => whnf)))
    intro h' q1 q2 q3
    ((conv => whnf); repeat ((first | refine SWrap.of (by show (0 : Int) ≤ _; omega) (by show _ ≤ (255 : Int); omega) ?_ | refine yf rfl ?_ | refine yt rfl ?_ | refine yo rfl ?_ | refine yc rfl ?_ | refine ys rfl ?_ | refine ye rfl ?_ | refine yn rfl ?_ | refine zw ?_ | refine zdt ?_ | refine zdf ?_ | refine znt ?_ | refine znf ?_ | refine zcd ?_ | refine zci ?_ | refine zc3 ?_) <;> (conv => whnf)))
    exact hR (26 - (i + 1)) _ _ (by omega) ⟨i + 1, h', lo, by omega, rfl, Nat.lt_of_lt_of_le hn q3.1, q1, q2, hk.trans (q3.mono fun n _ e => e.symm), (by repeat (first | exact Fr.le_nil | refine Fr.le_cons rfl ?_)), rfl⟩
  · obtain rfl : i = 26 := by omega
    ((conv => whnf); repeat ((first | refine SIf.df (show ¬ ((26 : Nat) : Int) < 26 by omega) ?_ | refine yf rfl ?_ | refine yt rfl ?_ | refine yo rfl ?_ | refine yc rfl ?_ | refine ys rfl ?_ | refine ye rfl ?_ | refine yn rfl ?_ | refine zw ?_ | refine zdt ?_ | refine zdf ?_ | refine znt ?_ | refine znf ?_ | refine zcd ?_ | refine zci ?_ | refine zc3 ?_) <;> (conv => whnf)))
    refine SLoop.by (fun q fr st => ∃ (i : Nat) (hh lo : Heap), i ≤ 10 ∧ q = 10 - i ∧ h.next < hh.next ∧ hh.get h.next = some (.cs [.i .u64 ((26 + i : Nat) : Int)]) ∧ hh.get a = some (.cs (tabV d l (26 + i) ++ R)) ∧ Heap.Keeps (fun n => n = a ∨ n = h.next) h hh ∧
        Fr.le [(14, .i .u8 i), (2, .fn 163 [] [.p (.g h.next) 0, .p (.g kv) 0])] fr ∧ st = ⟨hh, lo⟩)
      10 ⟨0, hh, _, by omega, rfl, hn, g1, g3, hk, (by repeat (first | exact Fr.le_nil | refine Fr.le_cons rfl ?_)), rfl⟩ ?_
    rintro q fr st ⟨i, hh, lo, hi, rfl, hn, g1, g3, hk, hle0, rfl⟩
    refine ⟨_, hle0, fun R1 hR => ?_⟩
    have g2 : hh.get kv = some (.cs [.p (.g a) 0]) := by rw [hk.2 kv hv (by rintro (h | h) <;> omega)]; exact h2
    by_cases hin : i < 10
    · have hadd := fun K hK => tadd_at (K := K) hG g1 g2 g3 (by omega) hva (by omega) (show 48 + i < 256 by omega) (show digitB (48 + i) = 26 + i + 1 by unfold digitB; rw [if_neg (by omega), if_pos (by omega)]; omega) hK
      have hb : ((48 + i : Nat) : Int) = 48 + (i : Int) := by omega
      rw [hb] at hadd
      ((conv => whnf); repeat ((first | refine SIf.dt (show (i : Int) < 10 by omega) ?_ | refine SWrap.of (by show (0 : Int) ≤ _; omega) (by show _ ≤ (255 : Int); omega) ?_ | refine SCall.app (hadd _) ?_ | refine yf rfl ?_ | refine yt rfl ?_ | refine yo rfl ?_ | refine yc rfl ?_ | refine ys rfl ?_ | refine ye rfl ?_ | refine yn rfl ?_ | refine zw ?_ | refine zdt ?_ | refine zdf ?_ | refine znt ?_ | refine znf ?_ | refine zcd ?_ | refine zci ?_ | refine zc3 ?_) <;> (conv => whnf)))
      intro h' q1 q2 q3
      ((conv => whnf); repeat ((first | refine SWrap.of (by show (0 : Int) ≤ _; omega) (by show _ ≤ (255 : Int); omega) ?_ | refine yf rfl ?_ | refine yt rfl ?_ | refine yo rfl ?_ | refine yc rfl ?_ | refine ys rfl ?_ | refine ye rfl ?_ | refine yn rfl ?_ | refine zw ?_ | refine zdt ?_ | refine zdf ?_ | refine znt ?_ | refine znf ?_ | refine zcd ?_ | refine zci ?_ | refine zc3 ?_) <;> (conv => whnf)))
      exact hR (10 - (i + 1)) _ _ (by omega) ⟨i + 1, h', lo, by omega, rfl, Nat.lt_of_lt_of_le hn q3.1, q1, q2, hk.trans (q3.mono fun n _ e => e.symm), (by repeat (first | exact Fr.le_nil | refine Fr.le_cons rfl ?_)), rfl⟩
    · obtain rfl : i = 10 := by omega
      have hadd := fun K hK => tadd_at (K := K) hG g1 g2 g3 (by omega) hva (by omega) (show 45 < 256 by omega) (show digitB 45 = 26 + 10 + 1 by rfl) hK
      ((conv => whnf); repeat ((first | refine SIf.df (show ¬ ((10 : Nat) : Int) < 10 by omega) ?_ | refine SCall.app (hadd _) ?_ | refine yf rfl ?_ | refine yt rfl ?_ | refine yo rfl ?_ | refine yc rfl ?_ | refine ys rfl ?_ | refine ye rfl ?_ | refine yn rfl ?_ | refine zw ?_ | refine zdt ?_ | refine zdf ?_ | refine znt ?_ | refine znf ?_ | refine zcd ?_ | refine zci ?_ | refine zc3 ?_) <;> (conv => whnf)))
      intro h' q1 q2 q3
      ((conv => whnf); repeat ((first | refine yf rfl ?_ | refine yt rfl ?_ | refine yo rfl ?_ | refine yc rfl ?_ | refine ys rfl ?_ | refine ye rfl ?_ | refine yn rfl ?_ | refine zw ?_ | refine zdt ?_ | refine zdf ?_ | refine znt ?_ | refine znf ?_ | refine zcd ?_ | refine zci ?_ | refine zc3 ?_) <;> (conv => whnf)))
      exact hK h' q2 ((hk.trans (q3.mono fun n _ e => e.symm)).mono fun n hn' e => by rcases e with e | e; exact e; omega)
end
end Go.Eng
/-
The writer: numbers, names.
-/
namespace Go.Eng
open Go
def tv : Bool → List V
  | true => tabV 1 0 37
  | false => tabV 0 0 0
theorem tv_len (m : Bool) : (tv m).length = 297 := by cases m <;> exact tabV_len _ _ _
theorem tv_ld (m : Bool) (x : V) (r : List V) : (tv m ++ x :: r)[0 + 297]? = some x := by
  rw [List.getElem?_append_right (by rw [tv_len]; omega), tv_len]; rfl
theorem tv_ldo (m : Bool) (x : V) (r : List V) : ldCells (tv m ++ x :: r) (0 + 297) none = some x := tv_ld m x r
theorem tv_st (m : Bool) (x y : V) (r : List V) : stCells (tv m ++ x :: r) (0 + 297) [y] = tv m ++ y :: r := by
  show List.set _ _ _ = _
  rw [List.set_append_right _ _ (by rw [tv_len]; omega), tv_len]; rfl
theorem tv_fits (m : Bool) (x y : V) (r : List V) : stFits (tv m ++ x :: r) (0 + 297) [y] = true := decide_eq_true (by rw [List.length_append, tv_len]; simp; omega)
def WrAt (h : Heap) (lo a : Nat) (m : Bool) (B : List Int) : Prop :=
  lo ≤ a ∧ a < h.next ∧ ((B = [] ∧ h.get a = some (.cs (tv m ++ [.nils]))) ∨ ∃ k, lo ≤ k ∧ k ≠ a ∧ k < h.next ∧ h.get k = some .spare ∧ h.get a = some (.cs (tv m ++ [.sl (some (.g k)) 1 (B.map byR)])))
def byteN (n : Int) (s : Int) : Int := IntKind.u8.wrap (n.fdiv (2 ^ (min s.toNat IntKind.i64.bits)))
def numB (n : Int) (size : Nat) : List Int := (List.range size).map fun (i : Nat) => byteN n (8 * (((size : Int) - 1) - (i : Int)))
theorem numB_get (n : Int) {size i : Nat} (h : i < size) : (numB n size)[i]? = some (byteN n (8 * (((size : Int) - 1) - i))) := by simp [numB, h]
section
variable {P : Program} (hG : FnsOk P AF.fns.get)
include hG
theorem tmake_at (hon : OnceOk P 161) {h : Heap} {a : Nat} {m : Bool} {R : List V} (ha : a < h.next) (h1 : h.get a = some (.cs (tv m ++ R))) {K : V → Heap → Prop}
    (hK : ∀ h', h'.get a = some (.cs (tv true ++ R)) → Heap.Keeps (fun n => n = a) h h' → K (.tup []) h') : ACall P 116 [.p (.g a) 0] h K := by
  have g1 : ∀ o, (h.push o).get a = some (.cs (tv m ++ R)) := fun o => Heap.gp (by omega) h1
  have g2 : ∀ o, (h.push o).get h.next = some o := fun o => Heap.get_push_self _ _
  cases m
  · have hdo := fun (K : V → Heap → Prop) hc => hon.first a 0 162 [] [.p (.g h.next) 0] (tv false ++ R) (h.push (.cs [.p (.g a) 0])) K (g1 _) rfl rfl hc
    refine fn_sp (hG _ AF.f116 rfl) rfl ?_
    ((conv => whnf); repeat ((first | refine SCall.app (hdo _) ?_ | refine SEx.of (g1 _) ?_ | refine SEx.of (g2 _) ?_ | refine yf rfl ?_ | refine yt rfl ?_ | refine yo rfl ?_ | refine yc rfl ?_ | refine ys rfl ?_ | refine ye rfl ?_ | refine yn rfl ?_ | refine zw ?_ | refine zdt ?_ | refine zdf ?_ | refine znt ?_ | refine znf ?_ | refine zcd ?_ | refine zci ?_ | refine zc3 ?_) <;> (conv => whnf)))
    have c1 : (tv false ++ R).set (0 + 1) (.i .i32 1) = tabV 0 1 0 ++ R := rfl
    rw [c1]
    refine tmake1_at hG (kv := h.next) (a := a) (d := 0) (l := 1) (R := R) (Heap.gs (by omega) (g2 _)) (Heap.get_set_self (g1 _)) (Nat.lt_succ_self _) (Nat.lt_succ_of_lt ha) (by omega) fun h' q1 q2 => ?_
    refine ⟨_, q1, rfl, rfl, ?_⟩
    have c2 : ((tabV 0 1 37 ++ R).set 0 (.i .u32 1)).set (0 + 1) (.i .i32 0) = tv true ++ R := rfl
    rw [c2]
    ((conv => whnf); repeat ((first | refine yf rfl ?_ | refine yt rfl ?_ | refine yo rfl ?_ | refine yc rfl ?_ | refine ys rfl ?_ | refine ye rfl ?_ | refine yn rfl ?_ | refine zw ?_ | refine zdt ?_ | refine zdf ?_ | refine znt ?_ | refine znf ?_ | refine zcd ?_ | refine zci ?_ | refine zc3 ?_) <;> (conv => whnf)))
    exact hK _ (Heap.get_set_self q1) (Heap.Keeps.set (b := fun n => n = a) (Heap.Keeps.trans (b := fun n => n = a) (Heap.Keeps.set (b := fun n => n = a) (.push (.refl _ _) _) (.inl rfl) _) q2) (.inl rfl) _)
  · have hdo := fun (K : V → Heap → Prop) hc => hon.done a 0 162 [] [.p (.g h.next) 0] (tv true ++ R) 1 (h.push (.cs [.p (.g a) 0])) K (g1 _) rfl (by decide) hc
    refine fn_sp (hG _ AF.f116 rfl) rfl ?_
    ((conv => whnf); repeat ((first | refine SCall.app (hdo _) ?_ | refine SEx.of (g1 _) ?_ | refine SEx.of (g2 _) ?_ | refine yf rfl ?_ | refine yt rfl ?_ | refine yo rfl ?_ | refine yc rfl ?_ | refine ys rfl ?_ | refine ye rfl ?_ | refine yn rfl ?_ | refine zw ?_ | refine zdt ?_ | refine zdf ?_ | refine znt ?_ | refine znf ?_ | refine zcd ?_ | refine zci ?_ | refine zc3 ?_) <;> (conv => whnf)))
    exact hK _ (g1 _) (.push (.refl _ _) _)
set_option maxHeartbeats 8000000 in
set_option maxRecDepth 20000 in
theorem wnum_at {h : Heap} {lo a : Nat} {m : Bool} {B : List Int} (hw : WrAt h lo a m B) (hB : B.length ≤ 100000000) (n : Int) (size : Nat) (hs : size ≤ 8) {K : V → Heap → Prop}
    (hK : ∀ h', WrAt h' lo a m (B ++ numB n size) → Heap.Keeps (fun n => lo ≤ n) h h' → K (.tup []) h') : ACall P 67 [.p (.g a) 0, .i .i64 n, .i .i64 size] h K := by
  refine fn_sp (hG _ AF.f67 rfl) rfl ?_
  have hnl : (numB n size).length = size := by simp [numB]
  ((conv => whnf); repeat ((first | refine yf rfl ?_ | refine yt rfl ?_ | refine yo rfl ?_ | refine yc rfl ?_ | refine ys rfl ?_ | refine ye rfl ?_ | refine yn rfl ?_ | refine zw ?_ | refine zdt ?_ | refine zdf ?_ | refine znt ?_ | refine znf ?_ | refine zcd ?_ | refine zci ?_ | refine zc3 ?_) <;> (conv => whnf)))
  refine SLoop.by (fun q fr st => ∃ (i : Nat) (hh l : Heap), i ≤ size ∧ q = size - i ∧ WrAt hh lo a m (B ++ (numB n size).take i) ∧ Heap.Keeps (fun n => lo ≤ n) h hh ∧
      Fr.le [(8, .i .i64 i), (7, .i .i64 size), (2, .i .i64 size), (1, .i .i64 n), (0, .p (.g a) 0)] fr ∧ st = ⟨hh, l⟩)
    size ⟨0, h, _, Nat.zero_le _, rfl, (by rw [List.take_zero, List.append_nil]; exact hw), .refl _ _, (by repeat (first | exact Fr.le_nil | refine Fr.le_cons rfl ?_)), rfl⟩ ?_
  rintro q fr st ⟨i, hh, l, hi, rfl, hwi, hk, hle0, rfl⟩
  refine ⟨_, hle0, fun R hR => ?_⟩
  by_cases hin : i < size
  · have hget := numB_get n hin
    have htk : (numB n size).take (i + 1) = (numB n size).take i ++ [byteN n (8 * (((size : Int) - 1) - i))] := by rw [List.take_add_one, hget]; rfl
    obtain ⟨hla, han, hb⟩ := hwi
    have hlen : (B ++ (numB n size).take i).length ≤ 100000008 := by simp; omega
    have g0 : ∀ o, (hh.push o).get hh.next = some o := fun o => Heap.get_push_self _ _
    rcases hb with ⟨hb0, ga⟩ | ⟨k, hlk, hka, hkn, gk, ga⟩
    · have g1 : ∀ o, (hh.push o).get a = some (.cs (tv m ++ [.nils])) := fun o => Heap.gp (by omega) ga
      have g2 : ∀ o o2, ((hh.push o).push o2).get a = some (.cs (tv m ++ [.nils])) := fun o o2 => Heap.gp (by show a ≠ hh.next + 1; omega) (g1 o)
      ((conv => whnf); repeat ((first | refine SIf.dt (show (i : Int) < (size : Nat) by omega) ?_ | refine SWrap.w64 (by omega) (by omega) ?_ | refine SChk.mk (decide_eq_true (show (0 : Int) ≤ 8 * ((size : Int) - 1 - (i : Int)) by omega)) ?_ | refine SWrap.mk ?_ | refine SChk.mk (tv_fits _ _ _ _) ?_ | refine SOpt.of (tv_ldo _ _ _) ?_ | refine SEx.of (congrArg some (tv_st _ _ _ _)) ?_ | refine SEx.of (ga) ?_ | refine SEx.of (g1 _) ?_ | refine SEx.of (g2 _ _) ?_ | refine yf rfl ?_ | refine yt rfl ?_ | refine yo rfl ?_ | refine yc rfl ?_ | refine ys rfl ?_ | refine ye rfl ?_ | refine yn rfl ?_ | refine zw ?_ | refine zdt ?_ | refine zdf ?_ | refine znt ?_ | refine znf ?_ | refine zcd ?_ | refine zci ?_ | refine zc3 ?_) <;> (conv => whnf)))
      dsimp only
      rw [tv_ldo]
      ((conv => whnf); repeat ((first | refine SIf.dt (show (i : Int) < (size : Nat) by omega) ?_ | refine SWrap.w64 (by omega) (by omega) ?_ | refine SChk.mk (decide_eq_true (show (0 : Int) ≤ 8 * ((size : Int) - 1 - (i : Int)) by omega)) ?_ | refine SWrap.mk ?_ | refine SChk.mk (tv_fits _ _ _ _) ?_ | refine SOpt.of (tv_ldo _ _ _) ?_ | refine SEx.of (congrArg some (tv_st _ _ _ _)) ?_ | refine SEx.of (ga) ?_ | refine SEx.of (g1 _) ?_ | refine SEx.of (g2 _ _) ?_ | refine yf rfl ?_ | refine yt rfl ?_ | refine yo rfl ?_ | refine yc rfl ?_ | refine ys rfl ?_ | refine ye rfl ?_ | refine yn rfl ?_ | refine zw ?_ | refine zdt ?_ | refine zdf ?_ | refine znt ?_ | refine znf ?_ | refine zcd ?_ | refine zci ?_ | refine zc3 ?_) <;> (conv => whnf)))
      have hk2 : ∀ o o2 o3, Heap.Keeps (fun n => lo ≤ n) h (((hh.push o).push o2).set a o3) := fun o o2 o3 => Heap.Keeps.set (b := fun n => lo ≤ n) (.push (.push hk _) _) (.inl hla) _
      exact hR (size - (i + 1)) _ _ (by omega) ⟨i + 1, _, _, by omega, rfl, ⟨hla, (by show a < hh.next + 1 + 1; omega), .inr ⟨hh.next + 1, by omega, by omega, Nat.lt_succ_self _, Heap.gs (by omega) (Heap.get_push_self _ _), (Heap.get_set_self (g2 _ _)).trans (by rw [htk, ← List.append_assoc, hb0]; rfl)⟩⟩, hk2 _ _ _, (by repeat (first | exact Fr.le_nil | refine Fr.le_cons rfl ?_)), rfl⟩
    · have g1 : ∀ o, (hh.push o).get a = some (.cs (tv m ++ [.sl (some (.g k)) 1 ((B ++ (numB n size).take i).map byR)])) := fun o => Heap.gp (by omega) ga
      have g3 : ∀ o, (hh.push o).get k = some .spare := fun o => Heap.gp (by omega) gk
      have g2 : ∀ o o2, (((hh.push o).remove k).push o2).get a = some (.cs (tv m ++ [.sl (some (.g k)) 1 ((B ++ (numB n size).take i).map byR)])) := fun o o2 => Heap.gp (by show a ≠ hh.next + 1; omega) (Heap.gr (Ne.symm hka) (g1 o))
      have hlm : ((B ++ (numB n size).take i).map byR).length = (B ++ (numB n size).take i).length := List.length_map _
      ((conv => whnf); repeat ((first | refine SIf.dt (show (i : Int) < (size : Nat) by omega) ?_ | refine SWrap.w64 (by omega) (by omega) ?_ | refine SChk.mk (decide_eq_true (show (0 : Int) ≤ 8 * ((size : Int) - 1 - (i : Int)) by omega)) ?_ | refine SWrap.mk ?_ | refine SChk.mk (tv_fits _ _ _ _) ?_ | refine SOpt.of (tv_ldo _ _ _) ?_ | refine SEx.of (congrArg some (tv_st _ _ _ _)) ?_ | refine SChk.mk (by simp only [roomOk, hlm]; exact decide_eq_true (by simp at hlen ⊢; omega)) ?_ | refine SEx.of (ga) ?_ | refine SEx.of (g1 _) ?_ | refine SEx.of (g2 _ _) ?_ | refine SEx.of (g3 _) ?_ | refine yf rfl ?_ | refine yt rfl ?_ | refine yo rfl ?_ | refine yc rfl ?_ | refine ys rfl ?_ | refine ye rfl ?_ | refine yn rfl ?_ | refine zw ?_ | refine zdt ?_ | refine zdf ?_ | refine znt ?_ | refine znf ?_ | refine zcd ?_ | refine zci ?_ | refine zc3 ?_) <;> (conv => whnf)))
      dsimp only
      rw [tv_ldo]
      ((conv => whnf); repeat ((first | refine SIf.dt (show (i : Int) < (size : Nat) by omega) ?_ | refine SWrap.w64 (by omega) (by omega) ?_ | refine SChk.mk (decide_eq_true (show (0 : Int) ≤ 8 * ((size : Int) - 1 - (i : Int)) by omega)) ?_ | refine SWrap.mk ?_ | refine SChk.mk (tv_fits _ _ _ _) ?_ | refine SOpt.of (tv_ldo _ _ _) ?_ | refine SEx.of (congrArg some (tv_st _ _ _ _)) ?_ | refine SChk.mk (by simp only [roomOk, hlm]; exact decide_eq_true (by simp at hlen ⊢; omega)) ?_ | refine SEx.of (ga) ?_ | refine SEx.of (g1 _) ?_ | refine SEx.of (g2 _ _) ?_ | refine SEx.of (g3 _) ?_ | refine yf rfl ?_ | refine yt rfl ?_ | refine yo rfl ?_ | refine yc rfl ?_ | refine ys rfl ?_ | refine ye rfl ?_ | refine yn rfl ?_ | refine zw ?_ | refine zdt ?_ | refine zdf ?_ | refine znt ?_ | refine znf ?_ | refine zcd ?_ | refine zci ?_ | refine zc3 ?_) <;> (conv => whnf)))
      have hk2 : ∀ o o2 o3, Heap.Keeps (fun n => lo ≤ n) h ((((hh.push o).remove k).push o2).set a o3) := fun o o2 o3 => Heap.Keeps.set (b := fun n => lo ≤ n) (.push (Heap.Keeps.remove (b := fun n => lo ≤ n) (.push hk _) (.inl hlk)) _) (.inl hla) _
      exact hR (size - (i + 1)) _ _ (by omega) ⟨i + 1, _, _, by omega, rfl, ⟨hla, (by show a < hh.next + 1 + 1; omega), .inr ⟨hh.next + 1, by omega, by omega, Nat.lt_succ_self _, Heap.gs (by omega) (Heap.get_push_self _ _), (Heap.get_set_self (g2 _ _)).trans (by rw [htk, ← List.append_assoc, List.map_append (f := byR) (l₂ := [_])]; rfl)⟩⟩, hk2 _ _ _, (by repeat (first | exact Fr.le_nil | refine Fr.le_cons rfl ?_)), rfl⟩
  · obtain rfl : i = size := by omega
    rw [show (numB n i).take i = numB n i from List.take_of_length_le (by omega)] at hwi
    ((conv => whnf); repeat ((first | refine SIf.df (show ¬ (i : Int) < (i : Nat) by omega) ?_ | refine yf rfl ?_ | refine yt rfl ?_ | refine yo rfl ?_ | refine yc rfl ?_ | refine ys rfl ?_ | refine ye rfl ?_ | refine yn rfl ?_ | refine zw ?_ | refine zdt ?_ | refine zdf ?_ | refine znt ?_ | refine znf ?_ | refine zcd ?_ | refine zci ?_ | refine zc3 ?_) <;> (conv => whnf)))
    exact hK hh hwi hk
end
end Go.Eng
/-
The writer: names.
-/
namespace Go.Eng
open Go
def codeL (ds : List Nat) : Nat := ds.foldl (fun n d => n * 38 + d) 0
def digitAt (s : Str) (i : Nat) : Nat := match s[i]? with
  | some c => digitB c.toNat
  | none => 0
def digitsN (s : Str) : List Nat := (List.range 12).map (digitAt s)
theorem digitAt_le (s : Str) (i : Nat) : digitAt s i ≤ 37 := by
  unfold digitAt
  split
  · exact digit_le _
  · omega
theorem codeL_snoc (ds : List Nat) (d : Nat) : codeL (ds ++ [d]) = codeL ds * 38 + d := by simp [codeL]
theorem codeL_lt : ∀ (n : Nat) (ds : List Nat), ds.length = n → (∀ d ∈ ds, d ≤ 37) → codeL ds < 38 ^ n
  | 0, ds, h, _ => by rw [List.length_eq_zero_iff.1 h]; decide
  | n + 1, ds, h, hd => by
    have hne : ds ≠ [] := by rintro rfl; simp at h
    rw [← List.dropLast_concat_getLast hne, codeL_snoc]
    have h1 := codeL_lt n ds.dropLast (by simp; omega) (fun d hm => hd d ((List.dropLast_sublist ds).subset hm))
    have h2 := hd _ (List.getLast_mem hne)
    rw [Nat.pow_succ]
    omega
theorem digitsN_le (s : Str) : ∀ d ∈ digitsN s, d ≤ 37 := by
  intro d hd
  obtain ⟨i, _, rfl⟩ := List.mem_map.1 hd
  exact digitAt_le s i
theorem digitsN_len (s : Str) : (digitsN s).length = 12 := by simp [digitsN]
theorem digitsN_take (s : Str) {i : Nat} (h : i < 12) : (digitsN s).take (i + 1) = (digitsN s).take i ++ [digitAt s i] := by
  rw [List.take_add_one]
  simp [digitsN, h]
theorem code_take (s : Str) {i : Nat} (h : i ≤ 12) : codeL ((digitsN s).take i) < 38 ^ i := codeL_lt i _ (by rw [List.length_take, digitsN_len]; omega) fun d hd => digitsN_le s d (List.mem_of_mem_take hd)
theorem pow38 {i : Nat} (h : i ≤ 12) : 38 ^ i ≤ 9065737908494995456 := Nat.le_trans (Nat.pow_le_pow_right (by decide) h) (by decide)
def codeN (s : Str) : Nat := codeL (digitsN s)
theorem codeN_lt (s : Str) : codeN s < 9065737908494995456 := by
  have := codeL_lt 12 (digitsN s) (digitsN_len s) (digitsN_le s)
  exact this
theorem tv_of (R : List V) {c : Nat} (hc : c < 256) (x : Int) (hx : x = (c : Int)) : ldCells (tv true ++ R) (0 + 0 + 3 + x.toNat * 1) none = some (.i .u64 (digitB c : Nat)) := by
  subst hx
  show (tv true ++ R)[_]? = _
  rw [show 0 + 0 + 3 + ((c : Nat) : Int).toNat * 1 = 3 + c by omega]
  rw [List.getElem?_append_left (by rw [tv_len]; omega)]
  unfold tv tabV
  rw [List.append_assoc, List.getElem?_append_right (by simp), List.getElem?_append_left (by simp; omega)]
  have h1 : digitB c ≤ 37 := digit_le c
  simp [hc, tabOf, h1]
theorem WrAt.made {h h' : Heap} {lo a : Nat} {m : Bool} {B : List Int} (hw : WrAt h lo a m B) (hk : Heap.Keeps (fun n => n = a) h h') (hg : ∀ R, h.get a = some (.cs (tv m ++ R)) → h'.get a = some (.cs (tv true ++ R))) : WrAt h' lo a true B := by
  obtain ⟨h1, h2, ⟨h3, h4⟩ | ⟨k, h3, h4, h5, h6, h7⟩⟩ := hw
  · exact ⟨h1, Nat.lt_of_lt_of_le h2 hk.1, .inl ⟨h3, hg _ h4⟩⟩
  · exact ⟨h1, Nat.lt_of_lt_of_le h2 hk.1, .inr ⟨k, h3, h4, Nat.lt_of_lt_of_le h5 hk.1, by rw [hk.2 k h5 h4]; exact h6, hg _ h7⟩⟩
section
variable {P : Program} (hG : FnsOk P AF.fns.get)
include hG
theorem wmake_at (hon : OnceOk P 161) {h : Heap} {lo a : Nat} {m : Bool} {B : List Int} (hw : WrAt h lo a m B) {K : V → Heap → Prop}
    (hK : ∀ h', WrAt h' lo a true B → Heap.Keeps (fun n => lo ≤ n) h h' → K (.tup []) h') : ACall P 116 [.p (.g a) 0] h K := by
  have hw' := hw
  obtain ⟨h1, h2, ⟨h3, h4⟩ | ⟨k, h3, h4, h5, h6, h7⟩⟩ := hw
  · exact tmake_at hG hon h2 h4 fun h' q1 q2 => hK h' (hw'.made q2 fun R hR => by rw [h4] at hR; have := List.append_cancel_left (Obj.cs.inj (Option.some.inj hR)); rw [← this]; exact q1) (q2.mono fun n _ e => by rw [e]; exact h1)
  · exact tmake_at hG hon h2 h7 fun h' q1 q2 => hK h' (hw'.made q2 fun R hR => by rw [h7] at hR; have := List.append_cancel_left (Obj.cs.inj (Option.some.inj hR)); rw [← this]; exact q1) (q2.mono fun n _ e => by rw [e]; exact h1)
set_option maxHeartbeats 4000000 in
theorem wname_at (hon : OnceOk P 161) {h : Heap} {lo a : Nat} {m : Bool} {B : List Int} (hw : WrAt h lo a m B) (hB : B.length ≤ 100000000) (s : Str) {K : V → Heap → Prop}
    (hK : ∀ h', WrAt h' lo a true (B ++ numB (codeN s) 8) → Heap.Keeps (fun n => lo ≤ n) h h' → K (.tup []) h') : ACall P 68 [.p (.g a) 0, .s s] h K := by
  have hmk := fun K hK => wmake_at (K := K) hG hon hw hK
  refine fn_sp (hG _ AF.f68 rfl) rfl ?_
  ((conv => whnf); repeat ((first | refine SCall.app (hmk _) ?_ | refine yf rfl ?_ | refine yt rfl ?_ | refine yo rfl ?_ | refine yc rfl ?_ | refine ys rfl ?_ | refine ye rfl ?_ | refine yn rfl ?_ | refine zw ?_ | refine zdt ?_ | refine zdf ?_ | refine znt ?_ | refine znf ?_ | refine zcd ?_ | refine zci ?_ | refine zc3 ?_) <;> (conv => whnf)))
  intro h1 hw1 hk1
  ((conv => whnf); repeat ((first | refine yf rfl ?_ | refine yt rfl ?_ | refine yo rfl ?_ | refine yc rfl ?_ | refine ys rfl ?_ | refine ye rfl ?_ | refine yn rfl ?_ | refine zw ?_ | refine zdt ?_ | refine zdf ?_ | refine znt ?_ | refine znf ?_ | refine zcd ?_ | refine zci ?_ | refine zc3 ?_) <;> (conv => whnf)))
  refine SLoop.by (fun q fr st => ∃ (i : Nat) (l : Heap), i ≤ 12 ∧ q = 12 - i ∧
      Fr.le [(10, .i .i64 i), (4, .i .u64 (codeL ((digitsN s).take i) : Nat)), (1, .s s), (0, .p (.g a) 0)] fr ∧ st = ⟨h1, l⟩)
    12 ⟨0, _, Nat.zero_le _, rfl, (by repeat (first | exact Fr.le_nil | refine Fr.le_cons rfl ?_)), rfl⟩ ?_
  rintro q fr st ⟨i, l, hi, rfl, hle0, rfl⟩
  refine ⟨_, hle0, fun R hR => ?_⟩
  have hlt := code_take s hi
  by_cases hin : i < 12
  · have hp := pow38 (show i + 1 ≤ 12 by omega)
    have hlt1 := code_take s (show i + 1 ≤ 12 by omega)
    rw [digitsN_take s hin, codeL_snoc] at hlt1
    have hstep : codeL ((digitsN s).take (i + 1)) = codeL ((digitsN s).take i) * 38 + digitAt s i := by rw [digitsN_take s hin, codeL_snoc]
    by_cases hs : i < s.length
    · have hc := List.getElem?_eq_getElem hs
      generalize s[i] = c at hc
      have hd : digitAt s i = digitB c.toNat := by unfold digitAt; rw [hc]
      have hcb : c.toNat < 256 := by have := c.toNat_lt; omega
      obtain ⟨_, _, hb⟩ := hw1
      obtain ⟨R0, hga⟩ : ∃ R0, h1.get a = some (.cs (tv true ++ R0)) := by
        rcases hb with ⟨_, h4⟩ | ⟨k, _, _, _, _, h4⟩
        · exact ⟨_, h4⟩
        · exact ⟨_, h4⟩
      have hget : s[((i : Nat) : Int).toNat]? = some c := by rw [Int.toNat_natCast]; exact hc
      ((conv => whnf); repeat ((first | refine SIf.dt (show (i : Int) < 12 by omega) ?_ | refine SIf.dt (show (i : Int) < (s.length : Nat) by omega) ?_ | refine SWrap.wu (by omega) (by omega) ?_ | refine SWrap.w64 (by omega) (by omega) ?_ | refine SChk.ix (by omega) (by omega) ?_ | refine SChk.mk (decide_eq_true (show (0 : Int) ≤ (i : Int) by omega)) ?_ | refine SOpt.of (tv_of _ hcb _ rfl) ?_ | refine SEx.of (hga) ?_ | refine SEx.of (hget) ?_ | refine yf rfl ?_ | refine yt rfl ?_ | refine yo rfl ?_ | refine yc rfl ?_ | refine ys rfl ?_ | refine ye rfl ?_ | refine yn rfl ?_ | refine zw ?_ | refine zdt ?_ | refine zdf ?_ | refine znt ?_ | refine znf ?_ | refine zcd ?_ | refine zci ?_ | refine zc3 ?_) <;> (conv => whnf)))
      exact hR (12 - (i + 1)) _ _ (by omega) ⟨i + 1, _, by omega, rfl, (by rw [hstep, hd]; exact (by repeat (first | exact Fr.le_nil | refine Fr.le_cons rfl ?_))), rfl⟩
    · have hd : digitAt s i = 0 := by unfold digitAt; rw [List.getElem?_eq_none (by omega)]
      rw [hd] at hstep
      ((conv => whnf); repeat ((first | refine SIf.dt (show (i : Int) < 12 by omega) ?_ | refine SIf.df (show ¬ (i : Int) < (s.length : Nat) by omega) ?_ | refine SWrap.wu (by omega) (by omega) ?_ | refine SWrap.w64 (by omega) (by omega) ?_ | refine yf rfl ?_ | refine yt rfl ?_ | refine yo rfl ?_ | refine yc rfl ?_ | refine ys rfl ?_ | refine ye rfl ?_ | refine yn rfl ?_ | refine zw ?_ | refine zdt ?_ | refine zdf ?_ | refine znt ?_ | refine znf ?_ | refine zcd ?_ | refine zci ?_ | refine zc3 ?_) <;> (conv => whnf)))
      exact hR (12 - (i + 1)) _ _ (by omega) ⟨i + 1, _, by omega, rfl, (by rw [hstep]; exact (by repeat (first | exact Fr.le_nil | refine Fr.le_cons rfl ?_))), rfl⟩
  · obtain rfl : i = 12 := by omega
    have hc12 := codeN_lt s
    rw [show (digitsN s).take 12 = digitsN s from List.take_of_length_le (by rw [digitsN_len]; omega)] at *
    have hnum := fun K hK => wnum_at (K := K) hG hw1 hB (codeN s) 8 (by omega) hK
    unfold codeN at hnum hc12
    ((conv => whnf); repeat ((first | refine SIf.df (show ¬ ((12 : Nat) : Int) < 12 by omega) ?_ | refine SWrap.w64 (by omega) (by omega) ?_ | refine SCall.app (hnum _) ?_ | refine yf rfl ?_ | refine yt rfl ?_ | refine yo rfl ?_ | refine yc rfl ?_ | refine ys rfl ?_ | refine ye rfl ?_ | refine yn rfl ?_ | refine zw ?_ | refine zdt ?_ | refine zdf ?_ | refine znt ?_ | refine znf ?_ | refine zcd ?_ | refine zci ?_ | refine zc3 ?_) <;> (conv => whnf)))
    intro h2 hw2 hk2
    ((conv => whnf); repeat ((first | refine yf rfl ?_ | refine yt rfl ?_ | refine yo rfl ?_ | refine yc rfl ?_ | refine ys rfl ?_ | refine ye rfl ?_ | refine yn rfl ?_ | refine zw ?_ | refine zdt ?_ | refine zdf ?_ | refine znt ?_ | refine znf ?_ | refine zcd ?_ | refine zci ?_ | refine zc3 ?_) <;> (conv => whnf)))
    exact hK h2 hw2 (hk1.trans hk2)
end
end Go.Eng
/-
The writer: amounts, pairs, terms.
-/
namespace Go.Eng
open Go
def encName (s : Str) : List Int := numB (codeN s) 8
def encRes (r : ResD) : List Int := numB r.a 4 ++ numB r.b 4 ++ numB r.c 4
def encPair (p : PairD) : List Int := encName p.key ++ encName p.val
def encPairs (l : List PairD) : List Int := numB l.length 1 ++ l.flatMap encPair
def encVals (l : List Str) : List Int := numB l.length 1 ++ l.flatMap encName
def encTerm (t : TermD) : List Int := encName t.key ++ numB t.kind 1 ++ encVals t.vals
def encTerms (l : List TermD) : List Int := numB l.length 1 ++ l.flatMap encTerm
def encBool (b : Bool) : List Int := numB (if b then 1 else 0) 1
def encTol (t : TolD) : List Int := encName t.key ++ encName t.val ++ encBool t.any
def encTols (l : List TolD) : List Int := numB l.length 1 ++ l.flatMap encTol
def encPort (n : Int) : List Int := numB n 2
def encPorts (l : List Int) : List Int := numB l.length 1 ++ l.flatMap encPort
theorem numB_len (n : Int) (k : Nat) : (numB n k).length = k := by simp [numB]
theorem encName_len (s : Str) : (encName s).length = 8 := numB_len _ _
theorem flatW_take {α : Type} (f : α → List Int) {l : List α} {i : Nat} {x : α} (h : l[i]? = some x) : (l.take (i + 1)).flatMap f = (l.take i).flatMap f ++ f x := by
  rw [List.take_add_one, h]; simp
theorem flatW_len {α : Type} (f : α → List Int) (n : Nat) : ∀ (l : List α), (∀ x ∈ l, (f x).length ≤ n) → (l.flatMap f).length ≤ l.length * n
  | [], _ => by simp
  | x :: r, h => by
    have h1 := flatW_len f n r fun y hy => h y (.tail _ hy)
    have h2 := h x (.head _)
    rw [List.flatMap_cons, List.length_append, List.length_cons, Nat.succ_mul]
    omega
theorem flatW_len_take {α : Type} (f : α → List Int) (n : Nat) (l : List α) (i : Nat) (h : ∀ x ∈ l, (f x).length ≤ n) : ((l.take i).flatMap f).length ≤ l.length * n := by
  have h1 := flatW_len f n (l.take i) fun x hx => h x (List.mem_of_mem_take hx)
  have h2 : (l.take i).length * n ≤ l.length * n := Nat.mul_le_mul_right n (by simp; omega)
  omega
section
variable {P : Program} (hG : FnsOk P AF.fns.get)
include hG
theorem wres_at {h : Heap} {lo a : Nat} {m : Bool} {B : List Int} (hw : WrAt h lo a m B) (hB : B.length ≤ 10000000) (r : ResD) {K : V → Heap → Prop}
    (hK : ∀ h', WrAt h' lo a m (B ++ encRes r) → Heap.Keeps (fun n => lo ≤ n) h h' → K (.tup []) h') : ACall P 69 [.p (.g a) 0, .agg (resR r)] h K := by
  have h1 := fun K hK => wnum_at (K := K) hG hw (by omega) r.a 4 (by omega) hK
  refine fn_sp (hG _ AF.f69 rfl) rfl ?_
  ((conv => whnf); repeat ((first | refine SLoop.un ?_ | refine SCall.app (h1 _) ?_ | refine yf rfl ?_ | refine yt rfl ?_ | refine yo rfl ?_ | refine yc rfl ?_ | refine ys rfl ?_ | refine ye rfl ?_ | refine yn rfl ?_ | refine zw ?_ | refine zdt ?_ | refine zdf ?_ | refine znt ?_ | refine znf ?_ | refine zcd ?_ | refine zci ?_ | refine zc3 ?_) <;> (conv => whnf)))
  intro h2 w2 k2
  have h3 := fun K hK => wnum_at (K := K) hG w2 (by rw [List.length_append, numB_len]; omega) r.b 4 (by omega) hK
  ((conv => whnf); repeat ((first | refine SLoop.un ?_ | refine SCall.app (h3 _) ?_ | refine yf rfl ?_ | refine yt rfl ?_ | refine yo rfl ?_ | refine yc rfl ?_ | refine ys rfl ?_ | refine ye rfl ?_ | refine yn rfl ?_ | refine zw ?_ | refine zdt ?_ | refine zdf ?_ | refine znt ?_ | refine znf ?_ | refine zcd ?_ | refine zci ?_ | refine zc3 ?_) <;> (conv => whnf)))
  intro h4 w4 k4
  have h5 := fun K hK => wnum_at (K := K) hG w4 (by rw [List.length_append, List.length_append, numB_len, numB_len]; omega) r.c 4 (by omega) hK
  ((conv => whnf); repeat ((first | refine SLoop.un ?_ | refine SCall.app (h5 _) ?_ | refine yf rfl ?_ | refine yt rfl ?_ | refine yo rfl ?_ | refine yc rfl ?_ | refine ys rfl ?_ | refine ye rfl ?_ | refine yn rfl ?_ | refine zw ?_ | refine zdt ?_ | refine zdf ?_ | refine znt ?_ | refine znf ?_ | refine zcd ?_ | refine zci ?_ | refine zc3 ?_) <;> (conv => whnf)))
  intro h6 w6 k6
  ((conv => whnf); repeat ((first | refine SLoop.un ?_ | refine yf rfl ?_ | refine yt rfl ?_ | refine yo rfl ?_ | refine yc rfl ?_ | refine ys rfl ?_ | refine ye rfl ?_ | refine yn rfl ?_ | refine zw ?_ | refine zdt ?_ | refine zdf ?_ | refine znt ?_ | refine znf ?_ | refine zcd ?_ | refine zci ?_ | refine zc3 ?_) <;> (conv => whnf)))
  exact hK h6 (by unfold encRes; rw [← List.append_assoc, ← List.append_assoc]; exact w6) ((k2.trans k4).trans k6)
theorem wbool_at {h : Heap} {lo a : Nat} {m : Bool} {B : List Int} (hw : WrAt h lo a m B) (hB : B.length ≤ 10000000) (b : Bool) {K : V → Heap → Prop}
    (hK : ∀ h', WrAt h' lo a m (B ++ encBool b) → Heap.Keeps (fun n => lo ≤ n) h h' → K (.tup []) h') : ACall P 73 [.p (.g a) 0, .b b] h K := by
  have h1 := fun K hK => wnum_at (K := K) hG hw (by omega) (if b then 1 else 0) 1 (by omega) hK
  refine fn_sp (hG _ AF.f73 rfl) rfl ?_
  cases b
  all_goals
    ((conv => whnf); repeat ((first | refine SCall.app (h1 _) ?_ | refine yf rfl ?_ | refine yt rfl ?_ | refine yo rfl ?_ | refine yc rfl ?_ | refine ys rfl ?_ | refine ye rfl ?_ | refine yn rfl ?_ | refine zw ?_ | refine zdt ?_ | refine zdf ?_ | refine znt ?_ | refine znf ?_ | refine zcd ?_ | refine zci ?_ | refine zc3 ?_) <;> (conv => whnf)))
    intro h2 w2 k2
    ((conv => whnf); repeat ((first | refine yf rfl ?_ | refine yt rfl ?_ | refine yo rfl ?_ | refine yc rfl ?_ | refine ys rfl ?_ | refine ye rfl ?_ | refine yn rfl ?_ | refine zw ?_ | refine zdt ?_ | refine zdf ?_ | refine znt ?_ | refine znf ?_ | refine zcd ?_ | refine zci ?_ | refine zc3 ?_) <;> (conv => whnf)))
    exact hK h2 w2 k2
set_option maxHeartbeats 4000000 in
theorem wpairs_at (hon : OnceOk P 161) {h : Heap} {lo a : Nat} {m : Bool} {B : List Int} (hw : WrAt h lo a m B) (hB : B.length ≤ 10000000) (l : List PairD) (hl : l.length ≤ 100) {K : V → Heap → Prop}
    (hK : ∀ h' m', WrAt h' lo a m' (B ++ encPairs l) → Heap.Keeps (fun n => lo ≤ n) h h' → K (.tup []) h') : ACall P 70 [.p (.g a) 0, .sl none 2 (l.map pairR), .fn 71 [] []] h K := by
  have hlm : (l.map pairR).length = l.length := List.length_map _
  have hpl : ∀ p : PairD, (encPair p).length = 16 := fun p => by simp [encPair, encName_len]
  have h1 := fun K hK => wnum_at (K := K) hG hw (by omega) (l.map pairR).length 1 (by omega) hK
  refine fn_sp (hG _ AF.f70 rfl) rfl ?_
  ((conv => whnf); repeat ((first | refine SCall.app (h1 _) ?_ | refine yf rfl ?_ | refine yt rfl ?_ | refine yo rfl ?_ | refine yc rfl ?_ | refine ys rfl ?_ | refine ye rfl ?_ | refine yn rfl ?_ | refine zw ?_ | refine zdt ?_ | refine zdf ?_ | refine znt ?_ | refine znf ?_ | refine zcd ?_ | refine zci ?_ | refine zc3 ?_) <;> (conv => whnf)))
  intro h2 w2 k2
  rw [hlm] at w2
  ((conv => whnf); repeat ((first | refine yf rfl ?_ | refine yt rfl ?_ | refine yo rfl ?_ | refine yc rfl ?_ | refine ys rfl ?_ | refine ye rfl ?_ | refine yn rfl ?_ | refine zw ?_ | refine zdt ?_ | refine zdf ?_ | refine znt ?_ | refine znf ?_ | refine zcd ?_ | refine zci ?_ | refine zc3 ?_) <;> (conv => whnf)))
  refine SLoop.by (fun q fr st => ∃ (i : Nat) (hh lc : Heap) (m' : Bool), i ≤ l.length ∧ q = l.length - i ∧ WrAt hh lo a m' (B ++ numB l.length 1 ++ (l.take i).flatMap encPair) ∧ Heap.Keeps (fun n => lo ≤ n) h hh ∧
      Fr.le [(16, .i .i64 i), (15, .i .i64 (l.map pairR).length), (14, .sl none 2 (l.map pairR)), (2, .fn 71 [] []), (0, .p (.g a) 0)] fr ∧ st = ⟨hh, lc⟩)
    l.length ⟨0, h2, _, m, Nat.zero_le _, rfl, (by simpa using w2), k2, (by repeat (first | exact Fr.le_nil | refine Fr.le_cons rfl ?_)), rfl⟩ ?_
  rintro q fr st ⟨i, hh, lc, m', hi, rfl, hwi, hk, hle0, rfl⟩
  refine ⟨_, hle0, fun R hR => ?_⟩
  by_cases hin : i < l.length
  · have he := List.getElem?_eq_getElem hin
    generalize l[i] = x at he
    have hft := flatW_take encPair he
    have hfl := flatW_len_take encPair 16 l i fun p _ => Nat.le_of_eq (hpl p)
    have hlB : (B ++ numB l.length 1 ++ (l.take i).flatMap encPair).length ≤ 10000000 + 1 + 1600 := by
      rw [List.length_append, List.length_append, numB_len]; omega
    have ha1 := fun K hK => wname_at (K := K) hG hon hwi (by omega) x.key hK
    ((conv => whnf); repeat ((first | refine SIf.dt (show (i : Int) < (l.map pairR).length by omega) ?_ | refine SCall.app (fn_sp (hG _ AF.f71 rfl) rfl) ?_ | refine SCall.app (ha1 _) ?_ | refine SEx.of (map_get' (by omega) he) ?_ | refine SEx.of (Heap.get_push_self _ _) ?_ | refine SEx.of (Heap.get_set_self (Heap.get_push_self _ _)) ?_ | refine yf rfl ?_ | refine yt rfl ?_ | refine yo rfl ?_ | refine yc rfl ?_ | refine ys rfl ?_ | refine ye rfl ?_ | refine yn rfl ?_ | refine zw ?_ | refine zdt ?_ | refine zdf ?_ | refine znt ?_ | refine znf ?_ | refine zcd ?_ | refine zci ?_ | refine zc3 ?_) <;> (conv => whnf)))
    intro h3 w3 k3
    have ha2 := fun K hK => wname_at (K := K) hG hon w3 (by rw [List.length_append, numB_len]; omega) x.val hK
    ((conv => whnf); repeat ((first | refine SCall.app (ha2 _) ?_ | refine yf rfl ?_ | refine yt rfl ?_ | refine yo rfl ?_ | refine yc rfl ?_ | refine ys rfl ?_ | refine ye rfl ?_ | refine yn rfl ?_ | refine zw ?_ | refine zdt ?_ | refine zdf ?_ | refine znt ?_ | refine znf ?_ | refine zcd ?_ | refine zci ?_ | refine zc3 ?_) <;> (conv => whnf)))
    intro h4 w4 k4
    ((conv => whnf); repeat ((first | refine SWrap.w64 (by omega) (by omega) ?_ | refine yf rfl ?_ | refine yt rfl ?_ | refine yo rfl ?_ | refine yc rfl ?_ | refine ys rfl ?_ | refine ye rfl ?_ | refine yn rfl ?_ | refine zw ?_ | refine zdt ?_ | refine zdf ?_ | refine znt ?_ | refine znf ?_ | refine zcd ?_ | refine zci ?_ | refine zc3 ?_) <;> (conv => whnf)))
    exact hR (l.length - (i + 1)) _ _ (by omega) ⟨i + 1, h4, _, true, by omega, rfl, (by rw [hft, ← List.append_assoc]; unfold encPair encName; rw [← List.append_assoc]; exact w4), (hk.trans k3).trans k4, (by repeat (first | exact Fr.le_nil | refine Fr.le_cons rfl ?_)), rfl⟩
  · obtain rfl : i = l.length := by omega
    rw [List.take_length] at hwi
    ((conv => whnf); repeat ((first | refine SIf.df (show ¬ ((l.length : Nat) : Int) < (l.map pairR).length by omega) ?_ | refine yf rfl ?_ | refine yt rfl ?_ | refine yo rfl ?_ | refine yc rfl ?_ | refine ys rfl ?_ | refine ye rfl ?_ | refine yn rfl ?_ | refine zw ?_ | refine zdt ?_ | refine zdf ?_ | refine znt ?_ | refine znf ?_ | refine zcd ?_ | refine zci ?_ | refine zc3 ?_) <;> (conv => whnf)))
    exact hK hh m' (by unfold encPairs; rw [← List.append_assoc]; exact hwi) hk
end
end Go.Eng
/-
The writer: terms, what was written.
-/
namespace Go.Eng
open Go
theorem encVals_len {l : List Str} (h : l.length ≤ 100) : (encVals l).length ≤ 801 := by
  have := flatW_len encName 8 l fun s _ => Nat.le_of_eq (encName_len s)
  unfold encVals
  rw [List.length_append, numB_len]
  omega
theorem encTerm_len {t : TermD} (h : t.vals.length ≤ 100) : (encTerm t).length ≤ 810 := by
  have := encVals_len h
  unfold encTerm
  rw [List.length_append, List.length_append, numB_len, encName_len]
  omega
section
variable {P : Program} (hG : FnsOk P AF.fns.get)
include hG
set_option maxHeartbeats 8000000 in
theorem wterms_at (hon : OnceOk P 161) {h : Heap} {lo a : Nat} {m : Bool} {B : List Int} (hw : WrAt h lo a m B) (hB : B.length ≤ 10000000) (l : List TermD) (hl : l.length ≤ 100) (hv : ∀ t ∈ l, t.vals.length ≤ 100) {K : V → Heap → Prop}
    (hK : ∀ h' m', WrAt h' lo a m' (B ++ encTerms l) → Heap.Keeps (fun n => lo ≤ n) h h' → K (.tup []) h') : ACall P 72 [.p (.g a) 0, .sl none 3 (l.map termR)] h K := by
  have hlm : (l.map termR).length = l.length := List.length_map _
  have h1 := fun K hK => wnum_at (K := K) hG hw (by omega) (l.map termR).length 1 (by omega) hK
  refine fn_sp (hG _ AF.f72 rfl) rfl ?_
  ((conv => whnf); repeat ((first | refine SCall.app (h1 _) ?_ | refine yf rfl ?_ | refine yt rfl ?_ | refine yo rfl ?_ | refine yc rfl ?_ | refine ys rfl ?_ | refine ye rfl ?_ | refine yn rfl ?_ | refine zw ?_ | refine zdt ?_ | refine zdf ?_ | refine znt ?_ | refine znf ?_ | refine zcd ?_ | refine zci ?_ | refine zc3 ?_) <;> (conv => whnf)))
  intro h2 w2 k2
  rw [hlm] at w2
  ((conv => whnf); repeat ((first | refine yf rfl ?_ | refine yt rfl ?_ | refine yo rfl ?_ | refine yc rfl ?_ | refine ys rfl ?_ | refine ye rfl ?_ | refine yn rfl ?_ | refine zw ?_ | refine zdt ?_ | refine zdf ?_ | refine znt ?_ | refine znf ?_ | refine zcd ?_ | refine zci ?_ | refine zc3 ?_) <;> (conv => whnf)))
  refine SLoop.by (fun q fr st => ∃ (i : Nat) (hh lc : Heap) (m' : Bool), i ≤ l.length ∧ q = l.length - i ∧ WrAt hh lo a m' (B ++ numB l.length 1 ++ (l.take i).flatMap encTerm) ∧ Heap.Keeps (fun n => lo ≤ n) h hh ∧
      Fr.le [(14, .i .i64 i), (13, .i .i64 (l.map termR).length), (12, .sl none 3 (l.map termR)), (0, .p (.g a) 0)] fr ∧ st = ⟨hh, lc⟩)
    l.length ⟨0, h2, _, m, Nat.zero_le _, rfl, (by simpa using w2), k2, (by repeat (first | exact Fr.le_nil | refine Fr.le_cons rfl ?_)), rfl⟩ ?_
  rintro q fr st ⟨i, hh, lc, m', hi, rfl, hwi, hk, hle0, rfl⟩
  refine ⟨_, hle0, fun R hR => ?_⟩
  by_cases hin : i < l.length
  · have he := List.getElem?_eq_getElem hin
    have hvx := hv _ (List.getElem_mem hin)
    generalize l[i] = x at he hvx
    have hft := flatW_take encTerm he
    have hfl := flatW_len_take encTerm 810 l i fun t ht => encTerm_len (hv t ht)
    have hlB : (B ++ numB l.length 1 ++ (l.take i).flatMap encTerm).length ≤ 10000000 + 1 + 81000 := by
      rw [List.length_append, List.length_append, numB_len]; omega
    have hvm : (x.vals.map strR).length = x.vals.length := List.length_map _
    have ha1 := fun K hK => wname_at (K := K) hG hon hwi (by omega) x.key hK
    ((conv => whnf); repeat ((first | refine SIf.dt (show (i : Int) < (l.map termR).length by omega) ?_ | refine SCall.app (ha1 _) ?_ | refine SEx.of (map_get' (by omega) he) ?_ | refine SEx.of (Heap.get_push_self _ _) ?_ | refine SEx.of (Heap.get_set_self (Heap.get_push_self _ _)) ?_ | refine yf rfl ?_ | refine yt rfl ?_ | refine yo rfl ?_ | refine yc rfl ?_ | refine ys rfl ?_ | refine ye rfl ?_ | refine yn rfl ?_ | refine zw ?_ | refine zdt ?_ | refine zdf ?_ | refine znt ?_ | refine znf ?_ | refine zcd ?_ | refine zci ?_ | refine zc3 ?_) <;> (conv => whnf)))
    intro h3 w3 k3
    have ha2 := fun K hK => wnum_at (K := K) hG w3 (by rw [List.length_append, numB_len]; omega) x.kind 1 (by omega) hK
    ((conv => whnf); repeat ((first | refine SCall.app (ha2 _) ?_ | refine SEx.of (Heap.get_push_self _ _) ?_ | refine SEx.of (Heap.get_set_self (Heap.get_push_self _ _)) ?_ | refine yf rfl ?_ | refine yt rfl ?_ | refine yo rfl ?_ | refine yc rfl ?_ | refine ys rfl ?_ | refine ye rfl ?_ | refine yn rfl ?_ | refine zw ?_ | refine zdt ?_ | refine zdf ?_ | refine znt ?_ | refine znf ?_ | refine zcd ?_ | refine zci ?_ | refine zc3 ?_) <;> (conv => whnf)))
    intro h4 w4 k4
    have ha3 := fun K hK => wnum_at (K := K) hG w4 (by rw [List.length_append, List.length_append, numB_len, numB_len]; omega) (x.vals.map strR).length 1 (by omega) hK
    ((conv => whnf); repeat ((first | refine SCall.app (ha3 _) ?_ | refine SEx.of (Heap.get_push_self _ _) ?_ | refine SEx.of (Heap.get_set_self (Heap.get_push_self _ _)) ?_ | refine yf rfl ?_ | refine yt rfl ?_ | refine yo rfl ?_ | refine yc rfl ?_ | refine ys rfl ?_ | refine ye rfl ?_ | refine yn rfl ?_ | refine zw ?_ | refine zdt ?_ | refine zdf ?_ | refine znt ?_ | refine znf ?_ | refine zcd ?_ | refine zci ?_ | refine zc3 ?_) <;> (conv => whnf)))
    intro h5 w5 k5
    rw [hvm] at w5
    ((conv => whnf); repeat ((first | refine SEx.of (Heap.get_push_self _ _) ?_ | refine SEx.of (Heap.get_set_self (Heap.get_push_self _ _)) ?_ | refine yf rfl ?_ | refine yt rfl ?_ | refine yo rfl ?_ | refine yc rfl ?_ | refine ys rfl ?_ | refine ye rfl ?_ | refine yn rfl ?_ | refine zw ?_ | refine zdt ?_ | refine zdf ?_ | refine znt ?_ | refine znf ?_ | refine zcd ?_ | refine zci ?_ | refine zc3 ?_) <;> (conv => whnf)))
    obtain ⟨B5, hB5⟩ : ∃ B5, B5 = (B ++ numB l.length 1 ++ (l.take i).flatMap encTerm) ++ numB (codeN x.key) 8 ++ numB x.kind 1 ++ numB x.vals.length 1 := ⟨_, rfl⟩
    have hB5l : B5.length ≤ 10000000 + 1 + 81000 + 10 := by rw [hB5, List.length_append, List.length_append, List.length_append, numB_len, numB_len, numB_len]; omega
    rw [← hB5] at w5
    refine SLoop.by (fun q fr st => ∃ (j : Nat) (hj lc : Heap), j ≤ x.vals.length ∧ q = x.vals.length - j ∧ WrAt hj lo a true (B5 ++ (x.vals.take j).flatMap encName) ∧ Heap.Keeps (fun n => lo ≤ n) h hj ∧
        Fr.le [(34, .i .i64 j), (33, .i .i64 (x.vals.map strR).length), (32, .sl none 1 (x.vals.map strR)), (14, .i .i64 i), (13, .i .i64 (l.map termR).length), (12, .sl none 3 (l.map termR)), (0, .p (.g a) 0)] fr ∧ st = ⟨hj, lc⟩)
      x.vals.length ⟨0, h5, _, Nat.zero_le _, rfl, (by simpa using w5), ((hk.trans k3).trans k4).trans k5, (by repeat (first | exact Fr.le_nil | refine Fr.le_cons rfl ?_)), rfl⟩ ?_
    rintro q fr st ⟨j, hj, lc, hjl, rfl, hwj, hkj, hle1, rfl⟩
    refine ⟨_, hle1, fun R2 hR2 => ?_⟩
    by_cases hjn : j < x.vals.length
    · have hv := List.getElem?_eq_getElem hjn
      generalize x.vals[j] = s at hv
      have hft2 := flatW_take encName hv
      have hfl2 := flatW_len_take encName 8 x.vals j fun s _ => Nat.le_of_eq (encName_len s)
      have hb1 := fun K hK => wname_at (K := K) hG hon hwj (by rw [List.length_append]; omega) s hK
      ((conv => whnf); repeat ((first | refine SIf.dt (show (j : Int) < (x.vals.map strR).length by omega) ?_ | refine SCall.app (hb1 _) ?_ | refine SEx.of (map_get' (by omega) hv) ?_ | refine yf rfl ?_ | refine yt rfl ?_ | refine yo rfl ?_ | refine yc rfl ?_ | refine ys rfl ?_ | refine ye rfl ?_ | refine yn rfl ?_ | refine zw ?_ | refine zdt ?_ | refine zdf ?_ | refine znt ?_ | refine znf ?_ | refine zcd ?_ | refine zci ?_ | refine zc3 ?_) <;> (conv => whnf)))
      intro h6 w6 k6
      ((conv => whnf); repeat ((first | refine SWrap.w64 (by omega) (by omega) ?_ | refine yf rfl ?_ | refine yt rfl ?_ | refine yo rfl ?_ | refine yc rfl ?_ | refine ys rfl ?_ | refine ye rfl ?_ | refine yn rfl ?_ | refine zw ?_ | refine zdt ?_ | refine zdf ?_ | refine znt ?_ | refine znf ?_ | refine zcd ?_ | refine zci ?_ | refine zc3 ?_) <;> (conv => whnf)))
      exact hR2 (x.vals.length - (j + 1)) _ _ (by omega) ⟨j + 1, h6, _, by omega, rfl, (by rw [hft2, ← List.append_assoc]; exact w6), hkj.trans k6, (by repeat (first | exact Fr.le_nil | refine Fr.le_cons rfl ?_)), rfl⟩
    · obtain rfl : j = x.vals.length := by omega
      rw [List.take_length] at hwj
      ((conv => whnf); repeat ((first | refine SIf.df (show ¬ ((x.vals.length : Nat) : Int) < (x.vals.map strR).length by omega) ?_ | refine SWrap.w64 (by omega) (by omega) ?_ | refine yf rfl ?_ | refine yt rfl ?_ | refine yo rfl ?_ | refine yc rfl ?_ | refine ys rfl ?_ | refine ye rfl ?_ | refine yn rfl ?_ | refine zw ?_ | refine zdt ?_ | refine zdf ?_ | refine znt ?_ | refine znf ?_ | refine zcd ?_ | refine zci ?_ | refine zc3 ?_) <;> (conv => whnf)))
      exact hR (l.length - (i + 1)) _ _ (by omega) ⟨i + 1, hj, _, true, by omega, rfl, (by
        have e : B ++ numB l.length 1 ++ (l.take (i + 1)).flatMap encTerm = B5 ++ x.vals.flatMap encName := by
          rw [hft, hB5]; unfold encTerm encVals encName; simp only [List.append_assoc]
        rw [e]; exact hwj), hkj, (by repeat (first | exact Fr.le_nil | refine Fr.le_cons rfl ?_)), rfl⟩
  · obtain rfl : i = l.length := by omega
    rw [List.take_length] at hwi
    ((conv => whnf); repeat ((first | refine SIf.df (show ¬ ((l.length : Nat) : Int) < (l.map termR).length by omega) ?_ | refine yf rfl ?_ | refine yt rfl ?_ | refine yo rfl ?_ | refine yc rfl ?_ | refine ys rfl ?_ | refine ye rfl ?_ | refine yn rfl ?_ | refine zw ?_ | refine zdt ?_ | refine zdf ?_ | refine znt ?_ | refine znf ?_ | refine zcd ?_ | refine zci ?_ | refine zc3 ?_) <;> (conv => whnf)))
    exact hK hh m' (by unfold encTerms; rw [← List.append_assoc]; exact hwi) hk
theorem wbytes_at {h : Heap} {lo a : Nat} {m : Bool} {B : List Int} (hw : WrAt h lo a m B) (hB : B.length ≤ 1000000000) (hne : B ≠ []) {K : V → Heap → Prop} (hK : K (.sl none 1 (B.map byR)) h) : ACall P 74 [.p (.g a) 0] h K := by
  have hc := clone_byte hG B (by omega)
  obtain ⟨h1, h2, ⟨h3, _⟩ | ⟨k, h3, h4, h5, h6, h7⟩⟩ := hw
  · exact absurd h3 hne
  refine fn_sp (hG _ AF.f74 rfl) rfl ?_
  ((conv => whnf); repeat ((first | refine SOpt.of (tv_ldo _ _ _) ?_ | refine SEx.of (h7) ?_ | refine yf rfl ?_ | refine yt rfl ?_ | refine yo rfl ?_ | refine yc rfl ?_ | refine ys rfl ?_ | refine ye rfl ?_ | refine yn rfl ?_ | refine zw ?_ | refine zdt ?_ | refine zdf ?_ | refine znt ?_ | refine znf ?_ | refine zcd ?_ | refine zci ?_ | refine zc3 ?_) <;> (conv => whnf)))
  refine SCall.app (Pure.call1 hc (by ((repeat (first | exact trivial | refine ⟨by first | exact ce1_free rfl | exact .inl .nil | exact .inl .tok | exact .inl (.rows (by ((repeat (first | exact .nil | refine .cons (by ((repeat (first | exact .nil | refine .cons (by first | exact .refl _ | exact .nil _) ?_)); first | done | fail)) ?_)); first | done | fail))) | exact .inr (.inl ⟨_, _, rfl, rfl, (by ((repeat (first | exact trivial | refine ⟨by first | exact ce_flat rfl | exact .nil | exact .tok | exact .ren rfl (Nat.le_of_ble_eq_true rfl) | exact .rows (by ((repeat (first | exact .nil | refine .cons (by ((repeat (first | exact .nil | refine .cons (by first | exact .refl _ | exact .nil _) ?_)); first | done | fail)) ?_)); first | done | fail)), ?_⟩)); first | done | fail))⟩), ?_⟩)); first | done | fail)) rfl) ?_
  ((conv => whnf); repeat ((first | refine yf rfl ?_ | refine yt rfl ?_ | refine yo rfl ?_ | refine yc rfl ?_ | refine ys rfl ?_ | refine ye rfl ?_ | refine yn rfl ?_ | refine zw ?_ | refine zdt ?_ | refine zdf ?_ | refine znt ?_ | refine znf ?_ | refine zcd ?_ | refine zci ?_ | refine zc3 ?_) <;> (conv => whnf)))
  exact hK
end
end Go.Eng
/-
A pod in bytes.
-/
namespace Go.Eng
open Go
def encPod (p : PodD) : List Int := numB 1 1 ++ encName p.name ++ numB p.uid 8 ++ numB p.prio 2 ++ encRes p.req ++ encPorts p.ports ++ encPairs p.labels ++ encTerms p.sel ++ encTols p.tols ++ encName p.topo ++ encTerms p.anti ++ numB p.skew 1 ++ encTerms p.even ++ encName p.node ++ numB p.term 8
structure PodSmall (p : PodD) : Prop where
  ports : p.ports.length ≤ 100
  labels : p.labels.length ≤ 100
  sel : p.sel.length ≤ 100
  tols : p.tols.length ≤ 100
  anti : p.anti.length ≤ 100
  even : p.even.length ≤ 100
  selv : ∀ t ∈ p.sel, t.vals.length ≤ 100
  antiv : ∀ t ∈ p.anti, t.vals.length ≤ 100
  evenv : ∀ t ∈ p.even, t.vals.length ≤ 100
theorem encTerms_len {l : List TermD} (h : l.length ≤ 100) (hv : ∀ t ∈ l, t.vals.length ≤ 100) : (encTerms l).length ≤ 81001 := by
  have := flatW_len encTerm 810 l fun t ht => encTerm_len (hv t ht)
  unfold encTerms
  rw [List.length_append, numB_len]
  omega
theorem encPairs_len {l : List PairD} (h : l.length ≤ 100) : (encPairs l).length ≤ 1601 := by
  have := flatW_len encPair 16 l fun p _ => Nat.le_of_eq (show (encPair p).length = 16 by simp [encPair, encName_len])
  unfold encPairs
  rw [List.length_append, numB_len]
  omega
theorem encTol_len (t : TolD) : (encTol t).length = 17 := by simp [encTol, encName_len, encBool, numB_len]
theorem encRes_len (r : ResD) : (encRes r).length = 12 := by simp [encRes, numB_len]
section
variable {P : Program} (hG : FnsOk P AF.fns.get)
include hG
set_option maxHeartbeats 16000000 in
theorem wput_no (p : PodD) (hm : Pure P 66 [.agg (podR p)] (· = .b false)) {h : Heap} {K : V → Heap → Prop} (hK : K .nils h) : ACall P 22 [.agg (podR p)] h K := by
  refine fn_sp (hG _ AF.f22 rfl) rfl ?_
  ((conv => whnf); repeat ((first | refine SCall.app (Pure.go hm rfl) ?_ | refine yf rfl ?_ | refine yt rfl ?_ | refine yo rfl ?_ | refine yc rfl ?_ | refine ys rfl ?_ | refine ye rfl ?_ | refine yn rfl ?_ | refine zw ?_ | refine zdt ?_ | refine zdf ?_ | refine znt ?_ | refine znf ?_ | refine zcd ?_ | refine zci ?_ | refine zc3 ?_) <;> (conv => whnf)))
  exact hK
set_option maxHeartbeats 16000000 in
set_option maxRecDepth 10000 in
theorem wput_at (hon : OnceOk P 161) (p : PodD) (hp : PodSmall p) (hm : Pure P 66 [.agg (podR p)] (· = .b true)) {h : Heap} {K : V → Heap → Prop}
    (hK : ∀ h', Heap.Keeps (fun _ => False) h h' → K (.sl none 1 ((encPod p).map byR)) h') : ACall P 22 [.agg (podR p)] h K := by
  have hlp : (p.ports.map intR).length = p.ports.length := List.length_map _
  have hlt : (p.tols.map tolR).length = p.tols.length := List.length_map _
  refine fn_sp (hG _ AF.f22 rfl) rfl ?_
  ((conv => whnf); repeat ((first | refine SCall.app (Pure.go hm rfl) ?_ | refine yf rfl ?_ | refine yt rfl ?_ | refine yo rfl ?_ | refine yc rfl ?_ | refine ys rfl ?_ | refine ye rfl ?_ | refine yn rfl ?_ | refine zw ?_ | refine zdt ?_ | refine zdf ?_ | refine znt ?_ | refine znf ?_ | refine zcd ?_ | refine zci ?_ | refine zc3 ?_) <;> (conv => whnf)))
  have w0 : WrAt (h.push (.cs (tv false ++ [.nils]))) h.next h.next false [] := ⟨Nat.le_refl _, Nat.lt_succ_self _, .inl ⟨rfl, Heap.get_push_self _ _⟩⟩
  have k0 : Heap.Keeps (fun n => h.next ≤ n) h (h.push (.cs (tv false ++ [.nils]))) := .push (.refl _ _) _
  have l0 : ([] : List Int).length ≤ 0 := Nat.le_refl _
  have c1 := fun K hK => wnum_at (K := K) hG w0 (by omega) (1) 1 (by omega) hK
  ((conv => whnf); repeat ((first | refine SCall.app (c1 _) ?_ | refine yf rfl ?_ | refine yt rfl ?_ | refine yo rfl ?_ | refine yc rfl ?_ | refine ys rfl ?_ | refine ye rfl ?_ | refine yn rfl ?_ | refine zw ?_ | refine zdt ?_ | refine zdf ?_ | refine znt ?_ | refine znf ?_ | refine zcd ?_ | refine zci ?_ | refine zc3 ?_) <;> (conv => whnf)))
  intro h1 w1 q1
  obtain ⟨B1, e1⟩ : ∃ X, X = [] ++ numB (1) 1 := ⟨_, rfl⟩
  have l1 : B1.length ≤ 1 := by rw [e1, List.length_append]; rw [numB_len]; omega
  rw [← e1] at w1
  have k1 := k0.trans q1
  clear c1
  have c2 := fun K hK => wname_at (K := K) hG hon w1 (by omega) p.name hK
  ((conv => whnf); repeat ((first | refine SCall.app (c2 _) ?_ | refine yf rfl ?_ | refine yt rfl ?_ | refine yo rfl ?_ | refine yc rfl ?_ | refine ys rfl ?_ | refine ye rfl ?_ | refine yn rfl ?_ | refine zw ?_ | refine zdt ?_ | refine zdf ?_ | refine znt ?_ | refine znf ?_ | refine zcd ?_ | refine zci ?_ | refine zc3 ?_) <;> (conv => whnf)))
  intro h2 w2 q2
  obtain ⟨B2, e2⟩ : ∃ X, X = B1 ++ encName p.name := ⟨_, rfl⟩
  have l2 : B2.length ≤ 9 := by rw [e2, List.length_append]; rw [encName_len]; omega
  change WrAt _ _ _ _ (_ ++ encName p.name) at w2; rw [← e2] at w2
  have k2 := k1.trans q2
  clear c2
  have c3 := fun K hK => wnum_at (K := K) hG w2 (by omega) (p.uid) 8 (by omega) hK
  ((conv => whnf); repeat ((first | refine SCall.app (c3 _) ?_ | refine yf rfl ?_ | refine yt rfl ?_ | refine yo rfl ?_ | refine yc rfl ?_ | refine ys rfl ?_ | refine ye rfl ?_ | refine yn rfl ?_ | refine zw ?_ | refine zdt ?_ | refine zdf ?_ | refine znt ?_ | refine znf ?_ | refine zcd ?_ | refine zci ?_ | refine zc3 ?_) <;> (conv => whnf)))
  intro h3 w3 q3
  obtain ⟨B3, e3⟩ : ∃ X, X = B2 ++ numB (p.uid) 8 := ⟨_, rfl⟩
  have l3 : B3.length ≤ 17 := by rw [e3, List.length_append]; rw [numB_len]; omega
  rw [← e3] at w3
  have k3 := k2.trans q3
  clear c3
  have c4 := fun K hK => wnum_at (K := K) hG w3 (by omega) (p.prio) 2 (by omega) hK
  ((conv => whnf); repeat ((first | refine SCall.app (c4 _) ?_ | refine yf rfl ?_ | refine yt rfl ?_ | refine yo rfl ?_ | refine yc rfl ?_ | refine ys rfl ?_ | refine ye rfl ?_ | refine yn rfl ?_ | refine zw ?_ | refine zdt ?_ | refine zdf ?_ | refine znt ?_ | refine znf ?_ | refine zcd ?_ | refine zci ?_ | refine zc3 ?_) <;> (conv => whnf)))
  intro h4 w4 q4
  obtain ⟨B4, e4⟩ : ∃ X, X = B3 ++ numB (p.prio) 2 := ⟨_, rfl⟩
  have l4 : B4.length ≤ 19 := by rw [e4, List.length_append]; rw [numB_len]; omega
  rw [← e4] at w4
  have k4 := k3.trans q4
  clear c4
  have c5 := fun K hK => wres_at (K := K) hG w4 (by omega) p.req hK
  ((conv => whnf); repeat ((first | refine SCall.app (c5 _) ?_ | refine yf rfl ?_ | refine yt rfl ?_ | refine yo rfl ?_ | refine yc rfl ?_ | refine ys rfl ?_ | refine ye rfl ?_ | refine yn rfl ?_ | refine zw ?_ | refine zdt ?_ | refine zdf ?_ | refine znt ?_ | refine znf ?_ | refine zcd ?_ | refine zci ?_ | refine zc3 ?_) <;> (conv => whnf)))
  intro h5 w5 q5
  obtain ⟨B5, e5⟩ : ∃ X, X = B4 ++ encRes p.req := ⟨_, rfl⟩
  have l5 : B5.length ≤ 31 := by rw [e5, List.length_append]; rw [encRes_len]; omega
  rw [← e5] at w5
  have k5 := k4.trans q5
  clear c5
  have c6 := fun K hK => wnum_at (K := K) hG w5 (by omega) (p.ports.map intR).length 1 (by omega) hK
  ((conv => whnf); repeat ((first | refine SCall.app (c6 _) ?_ | refine yf rfl ?_ | refine yt rfl ?_ | refine yo rfl ?_ | refine yc rfl ?_ | refine ys rfl ?_ | refine ye rfl ?_ | refine yn rfl ?_ | refine zw ?_ | refine zdt ?_ | refine zdf ?_ | refine znt ?_ | refine znf ?_ | refine zcd ?_ | refine zci ?_ | refine zc3 ?_) <;> (conv => whnf)))
  intro h6 w6 q6
  rw [hlp] at w6
  obtain ⟨B6, e6⟩ : ∃ X, X = B5 ++ numB p.ports.length 1 := ⟨_, rfl⟩
  have l6 : B6.length ≤ 32 := by rw [e6, List.length_append]; rw [numB_len]; omega
  rw [← e6] at w6
  have k6 := k5.trans q6
  clear c6
  ((conv => whnf); repeat ((first | refine yf rfl ?_ | refine yt rfl ?_ | refine yo rfl ?_ | refine yc rfl ?_ | refine ys rfl ?_ | refine ye rfl ?_ | refine yn rfl ?_ | refine zw ?_ | refine zdt ?_ | refine zdf ?_ | refine znt ?_ | refine znf ?_ | refine zcd ?_ | refine zci ?_ | refine zc3 ?_) <;> (conv => whnf)))
  refine SLoop.by (fun q fr st => ∃ (i : Nat) (hh : Heap), i ≤ p.ports.length ∧ q = p.ports.length - i ∧ WrAt hh h.next h.next true (B6 ++ (p.ports.take i).flatMap encPort) ∧ Heap.Keeps (fun n => h.next ≤ n) h hh ∧
      Fr.le [(31, .i .i64 i), (30, .i .i64 (p.ports.map intR).length), (29, .sl none 1 (p.ports.map intR)), (3, .p (.g h.next) 0), (1, .p (.l 0) 0)] fr ∧ st = ⟨hh, ⟨1, [(0, .cs (podR p))]⟩⟩)
    p.ports.length ⟨0, h6, Nat.zero_le _, rfl, (by simpa using w6), k6, (by repeat (first | exact Fr.le_nil | refine Fr.le_cons rfl ?_)), rfl⟩ ?_
  rintro q fr st ⟨i, hh, hi, rfl, hwi, hk, hle0, rfl⟩
  refine ⟨_, hle0, fun R hR => ?_⟩
  have hfl := flatW_len_take encPort 2 p.ports i fun _ _ => Nat.le_of_eq (numB_len _ _)
  have hps := hp.ports
  have hlB : (B6 ++ (p.ports.take i).flatMap encPort).length ≤ 32 + 200 := by rw [List.length_append]; omega
  by_cases hin : i < p.ports.length
  · have he := List.getElem?_eq_getElem hin
    generalize p.ports[i] = x at he
    have hft := flatW_take encPort he
    have c := fun K hK => wnum_at (K := K) hG hwi (by omega) x 2 (by omega) hK
    ((conv => whnf); repeat ((first | refine SIf.dt (show (i : Int) < (p.ports.map intR).length by omega) ?_ | refine SCall.app (c _) ?_ | refine SEx.of (map_get' (by omega) he) ?_ | refine yf rfl ?_ | refine yt rfl ?_ | refine yo rfl ?_ | refine yc rfl ?_ | refine ys rfl ?_ | refine ye rfl ?_ | refine yn rfl ?_ | refine zw ?_ | refine zdt ?_ | refine zdf ?_ | refine znt ?_ | refine znf ?_ | refine zcd ?_ | refine zci ?_ | refine zc3 ?_) <;> (conv => whnf)))
    intro h' w' q'
    ((conv => whnf); repeat ((first | refine SWrap.w64 (by omega) (by omega) ?_ | refine yf rfl ?_ | refine yt rfl ?_ | refine yo rfl ?_ | refine yc rfl ?_ | refine ys rfl ?_ | refine ye rfl ?_ | refine yn rfl ?_ | refine zw ?_ | refine zdt ?_ | refine zdf ?_ | refine znt ?_ | refine znf ?_ | refine zcd ?_ | refine zci ?_ | refine zc3 ?_) <;> (conv => whnf)))
    exact hR (p.ports.length - (i + 1)) _ _ (by omega) ⟨i + 1, h', by omega, rfl, (by rw [hft, ← List.append_assoc]; exact w'), hk.trans q', (by repeat (first | exact Fr.le_nil | refine Fr.le_cons rfl ?_)), rfl⟩
  obtain rfl : i = p.ports.length := by omega
  rw [List.take_length] at hwi hlB
  obtain ⟨B7, e7⟩ : ∃ X, X = B6 ++ p.ports.flatMap encPort := ⟨_, rfl⟩
  rw [← e7] at hlB
  have l7 : B7.length ≤ 232 := hlB
  have w7 : WrAt hh h.next h.next true B7 := by rw [e7]; exact hwi
  have k7 := hk
  ((conv => whnf); repeat ((first | refine SIf.df (show ¬ ((p.ports.length : Nat) : Int) < (p.ports.map intR).length by omega) ?_ | refine yf rfl ?_ | refine yt rfl ?_ | refine yo rfl ?_ | refine yc rfl ?_ | refine ys rfl ?_ | refine ye rfl ?_ | refine yn rfl ?_ | refine zw ?_ | refine zdt ?_ | refine zdf ?_ | refine znt ?_ | refine znf ?_ | refine zcd ?_ | refine zci ?_ | refine zc3 ?_) <;> (conv => whnf)))
  have c8 := fun K hK => wpairs_at (K := K) hG hon w7 (by omega) p.labels hp.labels hK
  ((conv => whnf); repeat ((first | refine SCall.app (c8 _) ?_ | refine yf rfl ?_ | refine yt rfl ?_ | refine yo rfl ?_ | refine yc rfl ?_ | refine ys rfl ?_ | refine ye rfl ?_ | refine yn rfl ?_ | refine zw ?_ | refine zdt ?_ | refine zdf ?_ | refine znt ?_ | refine znf ?_ | refine zcd ?_ | refine zci ?_ | refine zc3 ?_) <;> (conv => whnf)))
  intro h8 m8 w8 q8
  obtain ⟨B8, e8⟩ : ∃ X, X = B7 ++ encPairs p.labels := ⟨_, rfl⟩
  have l8 : B8.length ≤ 1833 := by rw [e8, List.length_append]; have := encPairs_len hp.labels; omega
  rw [← e8] at w8
  have k8 := k7.trans q8
  clear c8
  have c9 := fun K hK => wterms_at (K := K) hG hon w8 (by omega) p.sel hp.sel hp.selv hK
  ((conv => whnf); repeat ((first | refine SCall.app (c9 _) ?_ | refine yf rfl ?_ | refine yt rfl ?_ | refine yo rfl ?_ | refine yc rfl ?_ | refine ys rfl ?_ | refine ye rfl ?_ | refine yn rfl ?_ | refine zw ?_ | refine zdt ?_ | refine zdf ?_ | refine znt ?_ | refine znf ?_ | refine zcd ?_ | refine zci ?_ | refine zc3 ?_) <;> (conv => whnf)))
  intro h9 m9 w9 q9
  obtain ⟨B9, e9⟩ : ∃ X, X = B8 ++ encTerms p.sel := ⟨_, rfl⟩
  have l9 : B9.length ≤ 82834 := by rw [e9, List.length_append]; have := encTerms_len hp.sel hp.selv; omega
  rw [← e9] at w9
  have k9 := k8.trans q9
  clear c9
  have c10 := fun K hK => wnum_at (K := K) hG w9 (by omega) (p.tols.map tolR).length 1 (by omega) hK
  ((conv => whnf); repeat ((first | refine SCall.app (c10 _) ?_ | refine yf rfl ?_ | refine yt rfl ?_ | refine yo rfl ?_ | refine yc rfl ?_ | refine ys rfl ?_ | refine ye rfl ?_ | refine yn rfl ?_ | refine zw ?_ | refine zdt ?_ | refine zdf ?_ | refine znt ?_ | refine znf ?_ | refine zcd ?_ | refine zci ?_ | refine zc3 ?_) <;> (conv => whnf)))
  intro h10 w10 q10
  rw [hlt] at w10
  obtain ⟨B10, e10⟩ : ∃ X, X = B9 ++ numB p.tols.length 1 := ⟨_, rfl⟩
  have l10 : B10.length ≤ 82835 := by rw [e10, List.length_append]; rw [numB_len]; omega
  rw [← e10] at w10
  have k10 := k9.trans q10
  clear c10
  ((conv => whnf); repeat ((first | refine yf rfl ?_ | refine yt rfl ?_ | refine yo rfl ?_ | refine yc rfl ?_ | refine ys rfl ?_ | refine ye rfl ?_ | refine yn rfl ?_ | refine zw ?_ | refine zdt ?_ | refine zdf ?_ | refine znt ?_ | refine znf ?_ | refine zcd ?_ | refine zci ?_ | refine zc3 ?_) <;> (conv => whnf)))
  refine SLoop.by (fun q fr st => ∃ (i : Nat) (hh lc : Heap) (m' : Bool), i ≤ p.tols.length ∧ q = p.tols.length - i ∧ WrAt hh h.next h.next m' (B10 ++ (p.tols.take i).flatMap encTol) ∧ Heap.Keeps (fun n => h.next ≤ n) h hh ∧ 0 < lc.next ∧ lc.get 0 = some (.cs (podR p)) ∧
      Fr.le [(51, .i .i64 i), (50, .i .i64 (p.tols.map tolR).length), (49, .sl none 3 (p.tols.map tolR)), (3, .p (.g h.next) 0), (1, .p (.l 0) 0)] fr ∧ st = ⟨hh, lc⟩)
    p.tols.length ⟨0, h10, _, _, Nat.zero_le _, rfl, (by simpa using w10), k10, Nat.lt_succ_self _, rfl, (by repeat (first | exact Fr.le_nil | refine Fr.le_cons rfl ?_)), rfl⟩ ?_
  rintro q fr st ⟨i, hh, lc, m', hi, rfl, hwi, hk, hlc, hl0, hle1, rfl⟩
  refine ⟨_, hle1, fun R hR => ?_⟩
  have hfl2 := flatW_len_take encTol 17 p.tols i fun t _ => Nat.le_of_eq (encTol_len t)
  have hts := hp.tols
  have hlB2 : (B10 ++ (p.tols.take i).flatMap encTol).length ≤ 82835 + 1700 := by rw [List.length_append]; omega
  by_cases hin : i < p.tols.length
  · have he := List.getElem?_eq_getElem hin
    generalize p.tols[i] = x at he
    have hft := flatW_take encTol he
    have g0 : ∀ o o2, ((lc.push o).set lc.next o2).get lc.next = some o2 := fun o o2 => Heap.get_set_self (Heap.get_push_self _ _)
    have g1 : ∀ o o2, ((lc.push o).set lc.next o2).get 0 = some (.cs (podR p)) := fun o o2 => Heap.gs (by omega) (Heap.gp (by omega) hl0)
    have c := fun K hK => wname_at (K := K) hG hon hwi (by omega) x.key hK
    ((conv => whnf); repeat ((first | refine SIf.dt (show (i : Int) < (p.tols.map tolR).length by omega) ?_ | refine SCall.app (c _) ?_ | refine SEx.of (map_get' (by omega) he) ?_ | refine SEx.of (Heap.get_push_self _ _) ?_ | refine SEx.of (g0 _ _) ?_ | refine yf rfl ?_ | refine yt rfl ?_ | refine yo rfl ?_ | refine yc rfl ?_ | refine ys rfl ?_ | refine ye rfl ?_ | refine yn rfl ?_ | refine zw ?_ | refine zdt ?_ | refine zdf ?_ | refine znt ?_ | refine znf ?_ | refine zcd ?_ | refine zci ?_ | refine zc3 ?_) <;> (conv => whnf)))
    intro h' w' q'
    have c2 := fun K hK => wname_at (K := K) hG hon w' (by rw [List.length_append, numB_len]; omega) x.val hK
    ((conv => whnf); repeat ((first | refine SCall.app (c2 _) ?_ | refine SEx.of (g0 _ _) ?_ | refine yf rfl ?_ | refine yt rfl ?_ | refine yo rfl ?_ | refine yc rfl ?_ | refine ys rfl ?_ | refine ye rfl ?_ | refine yn rfl ?_ | refine zw ?_ | refine zdt ?_ | refine zdf ?_ | refine znt ?_ | refine znf ?_ | refine zcd ?_ | refine zci ?_ | refine zc3 ?_) <;> (conv => whnf)))
    intro h2' w2' q2'
    have c3 := fun K hK => wbool_at (K := K) hG w2' (by rw [List.length_append, List.length_append, numB_len, numB_len]; omega) x.any hK
    ((conv => whnf); repeat ((first | refine SCall.app (c3 _) ?_ | refine SEx.of (g0 _ _) ?_ | refine yf rfl ?_ | refine yt rfl ?_ | refine yo rfl ?_ | refine yc rfl ?_ | refine ys rfl ?_ | refine ye rfl ?_ | refine yn rfl ?_ | refine zw ?_ | refine zdt ?_ | refine zdf ?_ | refine znt ?_ | refine znf ?_ | refine zcd ?_ | refine zci ?_ | refine zc3 ?_) <;> (conv => whnf)))
    intro h3' w3' q3'
    ((conv => whnf); repeat ((first | refine SWrap.w64 (by omega) (by omega) ?_ | refine yf rfl ?_ | refine yt rfl ?_ | refine yo rfl ?_ | refine yc rfl ?_ | refine ys rfl ?_ | refine ye rfl ?_ | refine yn rfl ?_ | refine zw ?_ | refine zdt ?_ | refine zdf ?_ | refine znt ?_ | refine znf ?_ | refine zcd ?_ | refine zci ?_ | refine zc3 ?_) <;> (conv => whnf)))
    exact hR (p.tols.length - (i + 1)) _ _ (by omega) ⟨i + 1, h3', _, true, by omega, rfl, (by rw [hft, ← List.append_assoc]; unfold encTol encName; rw [← List.append_assoc, ← List.append_assoc]; exact w3'), ((hk.trans q').trans q2').trans q3', Nat.succ_pos _, g1 _ _, (by repeat (first | exact Fr.le_nil | refine Fr.le_cons rfl ?_)), rfl⟩
  obtain rfl : i = p.tols.length := by omega
  rw [List.take_length] at hwi hlB2
  obtain ⟨B11, e11⟩ : ∃ X, X = B10 ++ p.tols.flatMap encTol := ⟨_, rfl⟩
  rw [← e11] at hlB2
  have l11 : B11.length ≤ 84535 := hlB2
  have w11 : WrAt hh h.next h.next m' B11 := by rw [e11]; exact hwi
  have k11 := hk
  ((conv => whnf); repeat ((first | refine SIf.df (show ¬ ((p.tols.length : Nat) : Int) < (p.tols.map tolR).length by omega) ?_ | refine SEx.of (hl0) ?_ | refine yf rfl ?_ | refine yt rfl ?_ | refine yo rfl ?_ | refine yc rfl ?_ | refine ys rfl ?_ | refine ye rfl ?_ | refine yn rfl ?_ | refine zw ?_ | refine zdt ?_ | refine zdf ?_ | refine znt ?_ | refine znf ?_ | refine zcd ?_ | refine zci ?_ | refine zc3 ?_) <;> (conv => whnf)))
  have c12 := fun K hK => wname_at (K := K) hG hon w11 (by omega) p.topo hK
  ((conv => whnf); repeat ((first | refine SCall.app (c12 _) ?_ | refine SEx.of (hl0) ?_ | refine yf rfl ?_ | refine yt rfl ?_ | refine yo rfl ?_ | refine yc rfl ?_ | refine ys rfl ?_ | refine ye rfl ?_ | refine yn rfl ?_ | refine zw ?_ | refine zdt ?_ | refine zdf ?_ | refine znt ?_ | refine znf ?_ | refine zcd ?_ | refine zci ?_ | refine zc3 ?_) <;> (conv => whnf)))
  intro h12 w12 q12
  obtain ⟨B12, e12⟩ : ∃ X, X = B11 ++ encName p.topo := ⟨_, rfl⟩
  have l12 : B12.length ≤ 84543 := by rw [e12, List.length_append]; rw [encName_len]; omega
  change WrAt _ _ _ _ (_ ++ encName p.topo) at w12; rw [← e12] at w12
  have k12 := k11.trans q12
  clear c12
  have c13 := fun K hK => wterms_at (K := K) hG hon w12 (by omega) p.anti hp.anti hp.antiv hK
  ((conv => whnf); repeat ((first | refine SCall.app (c13 _) ?_ | refine SEx.of (hl0) ?_ | refine yf rfl ?_ | refine yt rfl ?_ | refine yo rfl ?_ | refine yc rfl ?_ | refine ys rfl ?_ | refine ye rfl ?_ | refine yn rfl ?_ | refine zw ?_ | refine zdt ?_ | refine zdf ?_ | refine znt ?_ | refine znf ?_ | refine zcd ?_ | refine zci ?_ | refine zc3 ?_) <;> (conv => whnf)))
  intro h13 m13 w13 q13
  obtain ⟨B13, e13⟩ : ∃ X, X = B12 ++ encTerms p.anti := ⟨_, rfl⟩
  have l13 : B13.length ≤ 165544 := by rw [e13, List.length_append]; have := encTerms_len hp.anti hp.antiv; omega
  rw [← e13] at w13
  have k13 := k12.trans q13
  clear c13
  have c14 := fun K hK => wnum_at (K := K) hG w13 (by omega) (p.skew) 1 (by omega) hK
  ((conv => whnf); repeat ((first | refine SCall.app (c14 _) ?_ | refine SEx.of (hl0) ?_ | refine yf rfl ?_ | refine yt rfl ?_ | refine yo rfl ?_ | refine yc rfl ?_ | refine ys rfl ?_ | refine ye rfl ?_ | refine yn rfl ?_ | refine zw ?_ | refine zdt ?_ | refine zdf ?_ | refine znt ?_ | refine znf ?_ | refine zcd ?_ | refine zci ?_ | refine zc3 ?_) <;> (conv => whnf)))
  intro h14 w14 q14
  obtain ⟨B14, e14⟩ : ∃ X, X = B13 ++ numB (p.skew) 1 := ⟨_, rfl⟩
  have l14 : B14.length ≤ 165545 := by rw [e14, List.length_append]; rw [numB_len]; omega
  rw [← e14] at w14
  have k14 := k13.trans q14
  clear c14
  have c15 := fun K hK => wterms_at (K := K) hG hon w14 (by omega) p.even hp.even hp.evenv hK
  ((conv => whnf); repeat ((first | refine SCall.app (c15 _) ?_ | refine SEx.of (hl0) ?_ | refine yf rfl ?_ | refine yt rfl ?_ | refine yo rfl ?_ | refine yc rfl ?_ | refine ys rfl ?_ | refine ye rfl ?_ | refine yn rfl ?_ | refine zw ?_ | refine zdt ?_ | refine zdf ?_ | refine znt ?_ | refine znf ?_ | refine zcd ?_ | refine zci ?_ | refine zc3 ?_) <;> (conv => whnf)))
  intro h15 m15 w15 q15
  obtain ⟨B15, e15⟩ : ∃ X, X = B14 ++ encTerms p.even := ⟨_, rfl⟩
  have l15 : B15.length ≤ 246546 := by rw [e15, List.length_append]; have := encTerms_len hp.even hp.evenv; omega
  rw [← e15] at w15
  have k15 := k14.trans q15
  clear c15
  have c16 := fun K hK => wname_at (K := K) hG hon w15 (by omega) p.node hK
  ((conv => whnf); repeat ((first | refine SCall.app (c16 _) ?_ | refine SEx.of (hl0) ?_ | refine yf rfl ?_ | refine yt rfl ?_ | refine yo rfl ?_ | refine yc rfl ?_ | refine ys rfl ?_ | refine ye rfl ?_ | refine yn rfl ?_ | refine zw ?_ | refine zdt ?_ | refine zdf ?_ | refine znt ?_ | refine znf ?_ | refine zcd ?_ | refine zci ?_ | refine zc3 ?_) <;> (conv => whnf)))
  intro h16 w16 q16
  obtain ⟨B16, e16⟩ : ∃ X, X = B15 ++ encName p.node := ⟨_, rfl⟩
  have l16 : B16.length ≤ 246554 := by rw [e16, List.length_append]; rw [encName_len]; omega
  change WrAt _ _ _ _ (_ ++ encName p.node) at w16; rw [← e16] at w16
  have k16 := k15.trans q16
  clear c16
  have c17 := fun K hK => wnum_at (K := K) hG w16 (by omega) (p.term) 8 (by omega) hK
  ((conv => whnf); repeat ((first | refine SCall.app (c17 _) ?_ | refine SEx.of (hl0) ?_ | refine yf rfl ?_ | refine yt rfl ?_ | refine yo rfl ?_ | refine yc rfl ?_ | refine ys rfl ?_ | refine ye rfl ?_ | refine yn rfl ?_ | refine zw ?_ | refine zdt ?_ | refine zdf ?_ | refine znt ?_ | refine znf ?_ | refine zcd ?_ | refine zci ?_ | refine zc3 ?_) <;> (conv => whnf)))
  intro h17 w17 q17
  obtain ⟨B17, e17⟩ : ∃ X, X = B16 ++ numB (p.term) 8 := ⟨_, rfl⟩
  have l17 : B17.length ≤ 246562 := by rw [e17, List.length_append]; rw [numB_len]; omega
  rw [← e17] at w17
  have k17 := k16.trans q17
  clear c17
  have hfin : B17 = encPod p := by
    rw [e17, e16, e15, e14, e13, e12, e11, e10, e9, e8, e7, e6, e5, e4, e3, e2, e1]
    unfold encPod encPorts encTols
    simp only [List.nil_append, List.append_assoc]
  have hne : B17 ≠ [] := by rw [hfin]; unfold encPod numB; simp
  have cb := fun K hK => wbytes_at (K := K) hG w17 (by omega) hne hK
  ((conv => whnf); repeat ((first | refine SCall.app (cb _) ?_ | refine yf rfl ?_ | refine yt rfl ?_ | refine yo rfl ?_ | refine yc rfl ?_ | refine ys rfl ?_ | refine ye rfl ?_ | refine yn rfl ?_ | refine zw ?_ | refine zdt ?_ | refine zdf ?_ | refine znt ?_ | refine znf ?_ | refine zcd ?_ | refine zci ?_ | refine zc3 ?_) <;> (conv => whnf)))
  rw [hfin]
  exact hK _ (k17.mono fun n hn e => absurd hn (by omega))
end
end Go.Eng
