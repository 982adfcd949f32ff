/-
The store of many keys: which txns may be.
-/
import Derived.Test.YtcckglahpbmakaaGreatLgC
set_option linter.unusedVariables false
set_option linter.unusedSimpArgs false
namespace Go.Eng
open Go
structure WrD where
  key : Str
  val : List Int
  gone : Bool
def wrR (w : WrD) : List V := [.s w.key, .sl none 1 (w.val.map byR), .b w.gone]
def keyB (k : Str) : Bool := decide (1 ≤ k.length) && decide (k.length ≤ 20)
def seenK (S : List Str) : List (V × V) := S.map fun x => (V.s x, V.b true)
theorem mfindK_some : ∀ {S : List Str} {x : Str}, x ∈ S → mfind (seenK S) (.s x) = some (.b true)
  | y :: r, x, h => by
    simp only [seenK, List.map_cons, mfind, keyEq_s]
    by_cases hxy : x = y
    · rw [if_pos (by simp [hxy])]
    · rw [if_neg (by simpa using hxy)]
      have : x ∈ r := by
        cases h with
        | head => exact absurd rfl hxy
        | tail _ h => exact h
      exact mfindK_some this
theorem mfindK_none : ∀ {S : List Str} {x : Str}, x ∉ S → mfind (seenK S) (.s x) = none
  | [], x, _ => rfl
  | y :: r, x, h => by
    simp only [seenK, List.map_cons, mfind, keyEq_s]
    have h1 : x ≠ y := by rintro rfl; exact h (.head _)
    rw [if_neg (by simpa using h1)]
    exact mfindK_none fun hx => h (.tail _ hx)
theorem mputK_new : ∀ {S : List Str} {x : Str}, x ∉ S → mput (seenK S) (.s x) (.b true) = seenK (S ++ [x])
  | [], x, _ => rfl
  | y :: r, x, h => by
    simp only [seenK, List.map_cons, mput, List.cons_append, keyEq_s]
    have h1 : x ≠ y := by rintro rfl; exact h (.head _)
    rw [if_neg (by simpa using h1)]
    have := mputK_new (S := r) (x := x) fun hx => h (.tail _ hx)
    simp only [seenK] at this
    rw [this]
def oneW (S : List Str) (w : WrD) : Bool := keyB w.key && (!decide (w.key ∈ S) && (!(w.gone && decide (0 < w.val.length)) && decide (w.val.length ≤ 4000)))
def mayW : List Str → List WrD → Bool
  | _, [] => true
  | S, w :: r => oneW S w && mayW (S ++ [w.key]) r
def mayT (ws : List WrD) : Bool := decide (1 ≤ ws.length) && decide (ws.length ≤ 64) && mayW [] ws
structure WrOk (w : WrD) : Prop where
  key : w.key.length ≤ 9223372036854775807
  val : w.val.length ≤ 9223372036854775807
section
variable {P : Program} (hG : FnsOk P AF.fns.get)
include hG
theorem gkey_ok {h : Heap} (k : Str) (hk : k.length ≤ 9223372036854775807) {K : V → Heap → Prop} (hK : K (.b (keyB k)) h) : ACall P 149 [.s k] h K := by
  unfold keyB at hK
  refine fn_sv (hG _ AF.f149 rfl) rfl ?_
  by_cases c1 : 1 ≤ k.length
  · rw [decide_eq_true c1, Bool.true_and] at hK
    by_cases c2 : k.length ≤ 20
    · rw [decide_eq_true c2] at hK
      ((conv => whnf); repeat ((first | refine SIf.dt (show ((k.length : Nat) : Int) ≥ 1 by omega) ?_ | refine yf rfl ?_ | refine yt rfl ?_ | refine yo rfl ?_ | refine yc rfl ?_ | refine ys rfl ?_ | refine ye rfl ?_ | refine yn rfl ?_ | refine zw ?_ | refine zdt ?_ | refine zdf ?_ | refine znt ?_ | refine znf ?_ | refine zcd ?_ | refine zci ?_ | refine zc3 ?_) <;> (conv => whnf)))
      rw [decide_eq_true (show ((k.length : Nat) : Int) ≤ 20 by omega)]
      exact hK
    · rw [decide_eq_false c2] at hK
      ((conv => whnf); repeat ((first | refine SIf.dt (show ((k.length : Nat) : Int) ≥ 1 by omega) ?_ | refine yf rfl ?_ | refine yt rfl ?_ | refine yo rfl ?_ | refine yc rfl ?_ | refine ys rfl ?_ | refine ye rfl ?_ | refine yn rfl ?_ | refine zw ?_ | refine zdt ?_ | refine zdf ?_ | refine znt ?_ | refine znf ?_ | refine zcd ?_ | refine zci ?_ | refine zc3 ?_) <;> (conv => whnf)))
      rw [decide_eq_false (show ¬ ((k.length : Nat) : Int) ≤ 20 by omega)]
      exact hK
  · rw [decide_eq_false c1, Bool.false_and] at hK
    ((conv => whnf); repeat ((first | refine SIf.df (show ¬ ((k.length : Nat) : Int) ≥ 1 by omega) ?_ | refine yf rfl ?_ | refine yt rfl ?_ | refine yo rfl ?_ | refine yc rfl ?_ | refine ys rfl ?_ | refine ye rfl ?_ | refine yn rfl ?_ | refine zw ?_ | refine zdt ?_ | refine zdf ?_ | refine znt ?_ | refine znf ?_ | refine zcd ?_ | refine zci ?_ | refine zc3 ?_) <;> (conv => whnf)))
    exact hK
set_option maxHeartbeats 16000000 in
theorem gmay_at {h : Heap} (ws : List WrD) (hw : ∀ w ∈ ws, WrOk w) (hl : ws.length ≤ 9223372036854775807) {K : V → Heap → Prop} (hK : ∀ h', Heap.Keeps (fun _ => False) h h' → K (.b (mayT ws)) h') :
    ACall P 98 [.agg [.nils, .sl none 3 (ws.map wrR)]] h K := by
  have hwl : (ws.map wrR).length = ws.length := List.length_map _
  unfold mayT at hK
  obtain ⟨B, hB⟩ : ∃ B, B = mayW [] ws := ⟨_, rfl⟩
  rw [← hB] at hK
  refine fn_sv (hG _ AF.f98 rfl) rfl ?_
  by_cases c1 : ws.length < 1
  · rw [decide_eq_false (by omega)] at hK
    ((conv => whnf); repeat ((first | refine SIf.dt (show ((ws.map wrR).length : Int) < 1 by omega) ?_ | refine yf rfl ?_ | refine yt rfl ?_ | refine yo rfl ?_ | refine yc rfl ?_ | refine ys rfl ?_ | refine ye rfl ?_ | refine yn rfl ?_ | refine zw ?_ | refine zdt ?_ | refine zdf ?_ | refine znt ?_ | refine znf ?_ | refine zcd ?_ | refine zci ?_ | refine zc3 ?_) <;> (conv => whnf)))
    exact hK h (.refl _ _)
  rw [decide_eq_true (by omega), Bool.true_and] at hK
  by_cases c2 : ws.length > 64
  · rw [decide_eq_false (by omega)] at hK
    ((conv => whnf); repeat ((first | refine SIf.df (show ¬ ((ws.map wrR).length : Int) < 1 by omega) ?_ | refine SIf.dt (show ((ws.map wrR).length : Int) > 64 by omega) ?_ | refine yf rfl ?_ | refine yt rfl ?_ | refine yo rfl ?_ | refine yc rfl ?_ | refine ys rfl ?_ | refine ye rfl ?_ | refine yn rfl ?_ | refine zw ?_ | refine zdt ?_ | refine zdf ?_ | refine znt ?_ | refine znf ?_ | refine zcd ?_ | refine zci ?_ | refine zc3 ?_) <;> (conv => whnf)))
    exact hK h (.refl _ _)
  rw [decide_eq_true (by omega), Bool.true_and] at hK
  ((conv => whnf); repeat ((first | refine SIf.df (show ¬ ((ws.map wrR).length : Int) < 1 by omega) ?_ | refine SIf.df (show ¬ ((ws.map wrR).length : Int) > 64 by omega) ?_ | refine yf rfl ?_ | refine yt rfl ?_ | refine yo rfl ?_ | refine yc rfl ?_ | refine ys rfl ?_ | refine ye rfl ?_ | refine yn rfl ?_ | refine zw ?_ | refine zdt ?_ | refine zdf ?_ | refine znt ?_ | refine znf ?_ | refine zcd ?_ | refine zci ?_ | refine zc3 ?_) <;> (conv => whnf)))
  refine SLoopV.un rfl ?_
  ((conv => whnf); repeat ((first | refine yf rfl ?_ | refine yt rfl ?_ | refine yo rfl ?_ | refine yc rfl ?_ | refine ys rfl ?_ | refine ye rfl ?_ | refine yn rfl ?_ | refine zw ?_ | refine zdt ?_ | refine zdf ?_ | refine znt ?_ | refine znf ?_ | refine zcd ?_ | refine zci ?_ | refine zc3 ?_) <;> (conv => whnf)))
  refine SLoopV.by (fun q fr st => ∃ (i : Nat) (hh lo : Heap) (S : List Str), i ≤ ws.length ∧ q = ws.length - i ∧ B = mayW S (ws.drop i) ∧ Heap.Keeps (fun _ => False) h hh ∧ hh.get h.next = some (.mp none (seenK S)) ∧
      Fr.le [(45, .i .i64 i), (44, .i .i64 (ws.map wrR).length), (43, .sl none 3 (ws.map wrR)), (5, .m (.g h.next))] fr ∧ st = ⟨hh, lo⟩)
    ws.length ⟨0, _, _, [], Nat.zero_le _, rfl, hB, .push (.refl _ _) _, Heap.get_push_self _ _, (by repeat (first | exact Fr.le_nil | refine Fr.le_cons rfl ?_)), rfl⟩ ?_
  rintro q fr st ⟨i, hh, lo, S, hi, rfl, hm, hk, hg, hle0, rfl⟩
  refine ⟨_, hle0, fun R hR => ?_⟩
  by_cases hin : i < ws.length
  · have he := List.getElem?_eq_getElem hin
    have hwo := hw _ (List.getElem_mem hin)
    have hdr := List.drop_eq_getElem_cons hin
    generalize ws[i] = w at he hwo hdr
    rw [hdr] at hm
    unfold mayW oneW at hm
    have hvl : (w.val.map byR).length = w.val.length := List.length_map _
    have hvo := hwo.val
    have hkey := fun (K : V → Heap → Prop) hK => gkey_ok (K := K) hG (h := hh) w.key hwo.key hK
    have a1 : ∀ o, (lo.push o).get lo.next = some o := fun o => Heap.get_push_self _ _
    have a2 : ∀ o o2, ((lo.push o).set lo.next o2).get lo.next = some o2 := fun o o2 => Heap.get_set_self (a1 _)
    cases hkb : keyB w.key
    · rw [hkb, Bool.false_and, Bool.false_and] at hm
      rw [hkb] at hkey
      rw [hm] at hK
      ((conv => whnf); repeat ((first | refine SIf.dt (show (i : Int) < (ws.map wrR).length by omega) ?_ | refine SCall.app (hkey _) ?_ | refine SEx.of (map_get' (f := wrR) (by omega) he) ?_ | refine SEx.of (a2 _ _) ?_ | refine SEx.of (a1 _) ?_ | refine yf rfl ?_ | refine yt rfl ?_ | refine yo rfl ?_ | refine yc rfl ?_ | refine ys rfl ?_ | refine ye rfl ?_ | refine yn rfl ?_ | refine zw ?_ | refine zdt ?_ | refine zdf ?_ | refine znt ?_ | refine znf ?_ | refine zcd ?_ | refine zci ?_ | refine zc3 ?_) <;> (conv => whnf)))
      exact hK hh hk
    rw [hkb, Bool.true_and] at hm
    rw [hkb] at hkey
    by_cases hS : w.key ∈ S
    · rw [decide_eq_true hS, Bool.not_true, Bool.false_and, Bool.false_and] at hm
      rw [hm] at hK
      have hmf := mfindK_some hS
      ((conv => whnf); repeat ((first | refine SIf.dt (show (i : Int) < (ws.map wrR).length by omega) ?_ | refine SCall.app (hkey _) ?_ | refine SOpt.of hmf ?_ | refine SEx.of (map_get' (f := wrR) (by omega) he) ?_ | refine SEx.of (a2 _ _) ?_ | refine SEx.of (a1 _) ?_ | refine SEx.of (hg) ?_ | refine yf rfl ?_ | refine yt rfl ?_ | refine yo rfl ?_ | refine yc rfl ?_ | refine ys rfl ?_ | refine ye rfl ?_ | refine yn rfl ?_ | refine zw ?_ | refine zdt ?_ | refine zdf ?_ | refine znt ?_ | refine znf ?_ | refine zcd ?_ | refine zci ?_ | refine zc3 ?_) <;> (conv => whnf)))
      exact hK hh hk
    rw [decide_eq_false hS, Bool.not_false, Bool.true_and] at hm
    have hmf := mfindK_none hS
    have hmp := mputK_new hS
    cases hgo : w.gone
    · rw [hgo, Bool.false_and, Bool.not_false, Bool.true_and] at hm
      have hrow : wrR w = [.s w.key, .sl none 1 (w.val.map byR), .b false] := by rw [← hgo]; rfl
      have hge := (map_get' (f := wrR) (j := ((i : Nat) : Int).toNat) (by omega) he).trans (congrArg some hrow)
      by_cases hv : w.val.length ≤ 4000
      · rw [decide_eq_true hv, Bool.true_and] at hm
        ((conv => whnf); repeat ((first | refine SIf.dt (show (i : Int) < (ws.map wrR).length by omega) ?_ | refine SCall.app (hkey _) ?_ | refine SOpt.no hmf ?_ | refine SIf.df (show ¬ ((w.val.map byR).length : Int) > 4000 by omega) ?_ | refine SWrap.w64 (by omega) (by omega) ?_ | refine SEx.of (hge) ?_ | refine SEx.of (a2 _ _) ?_ | refine SEx.of (a1 _) ?_ | refine SEx.of (hg) ?_ | refine yf rfl ?_ | refine yt rfl ?_ | refine yo rfl ?_ | refine yc rfl ?_ | refine ys rfl ?_ | refine ye rfl ?_ | refine yn rfl ?_ | refine zw ?_ | refine zdt ?_ | refine zdf ?_ | refine znt ?_ | refine znf ?_ | refine zcd ?_ | refine zci ?_ | refine zc3 ?_) <;> (conv => whnf)))
        refine hR (ws.length - (i + 1)) _ _ (by omega) ⟨i + 1, _, _, S ++ [w.key], by omega, rfl, hm, Heap.Keeps.set (b := fun _ => False) hk (.inr (Nat.le_refl _)) _, ?_, (by repeat (first | exact Fr.le_nil | refine Fr.le_cons rfl ?_)), rfl⟩
        rw [← hmp]; exact Heap.get_set_self hg
      · rw [decide_eq_false hv, Bool.false_and] at hm
        rw [hm] at hK
        ((conv => whnf); repeat ((first | refine SIf.dt (show (i : Int) < (ws.map wrR).length by omega) ?_ | refine SCall.app (hkey _) ?_ | refine SOpt.no hmf ?_ | refine SIf.dt (show ((w.val.map byR).length : Int) > 4000 by omega) ?_ | refine SEx.of (hge) ?_ | refine SEx.of (a2 _ _) ?_ | refine SEx.of (a1 _) ?_ | refine SEx.of (hg) ?_ | refine yf rfl ?_ | refine yt rfl ?_ | refine yo rfl ?_ | refine yc rfl ?_ | refine ys rfl ?_ | refine ye rfl ?_ | refine yn rfl ?_ | refine zw ?_ | refine zdt ?_ | refine zdf ?_ | refine znt ?_ | refine znf ?_ | refine zcd ?_ | refine zci ?_ | refine zc3 ?_) <;> (conv => whnf)))
        exact hK hh hk
    · have hrow : wrR w = [.s w.key, .sl none 1 (w.val.map byR), .b true] := by rw [← hgo]; rfl
      have hge := (map_get' (f := wrR) (j := ((i : Nat) : Int).toNat) (by omega) he).trans (congrArg some hrow)
      by_cases hv0 : 0 < w.val.length
      · rw [hgo, decide_eq_true hv0] at hm
        rw [show B = false from hm] at hK
        ((conv => whnf); repeat ((first | refine SIf.dt (show (i : Int) < (ws.map wrR).length by omega) ?_ | refine SCall.app (hkey _) ?_ | refine SOpt.no hmf ?_ | refine SIf.dt (show ((w.val.map byR).length : Int) > 0 by omega) ?_ | refine SEx.of (hge) ?_ | refine SEx.of (a2 _ _) ?_ | refine SEx.of (a1 _) ?_ | refine SEx.of (hg) ?_ | refine yf rfl ?_ | refine yt rfl ?_ | refine yo rfl ?_ | refine yc rfl ?_ | refine ys rfl ?_ | refine ye rfl ?_ | refine yn rfl ?_ | refine zw ?_ | refine zdt ?_ | refine zdf ?_ | refine znt ?_ | refine znf ?_ | refine zcd ?_ | refine zci ?_ | refine zc3 ?_) <;> (conv => whnf)))
        exact hK hh hk
      · rw [hgo, decide_eq_false hv0, decide_eq_true (show w.val.length ≤ 4000 by omega)] at hm
        have hm' : B = mayW (S ++ [w.key]) (ws.drop (i + 1)) := hm
        ((conv => whnf); repeat ((first | refine SIf.dt (show (i : Int) < (ws.map wrR).length by omega) ?_ | refine SCall.app (hkey _) ?_ | refine SOpt.no hmf ?_ | refine SIf.df (show ¬ ((w.val.map byR).length : Int) > 0 by omega) ?_ | refine SIf.df (show ¬ ((w.val.map byR).length : Int) > 4000 by omega) ?_ | refine SWrap.w64 (by omega) (by omega) ?_ | refine SEx.of (hge) ?_ | refine SEx.of (a2 _ _) ?_ | refine SEx.of (a1 _) ?_ | refine SEx.of (hg) ?_ | refine yf rfl ?_ | refine yt rfl ?_ | refine yo rfl ?_ | refine yc rfl ?_ | refine ys rfl ?_ | refine ye rfl ?_ | refine yn rfl ?_ | refine zw ?_ | refine zdt ?_ | refine zdf ?_ | refine znt ?_ | refine znf ?_ | refine zcd ?_ | refine zci ?_ | refine zc3 ?_) <;> (conv => whnf)))
        refine hR (ws.length - (i + 1)) _ _ (by omega) ⟨i + 1, _, _, S ++ [w.key], by omega, rfl, hm', Heap.Keeps.set (b := fun _ => False) hk (.inr (Nat.le_refl _)) _, ?_, (by repeat (first | exact Fr.le_nil | refine Fr.le_cons rfl ?_)), rfl⟩
        rw [← hmp]; exact Heap.get_set_self hg
  · obtain rfl : i = ws.length := by omega
    rw [List.drop_length] at hm
    rw [hm] at hK
    ((conv => whnf); repeat ((first | refine SIf.df (show ¬ ((ws.length : Nat) : Int) < (ws.map wrR).length by omega) ?_ | refine yf rfl ?_ | refine yt rfl ?_ | refine yo rfl ?_ | refine yc rfl ?_ | refine ys rfl ?_ | refine ye rfl ?_ | refine yn rfl ?_ | refine zw ?_ | refine zdt ?_ | refine zdf ?_ | refine znt ?_ | refine znf ?_ | refine zcd ?_ | refine zci ?_ | refine zc3 ?_) <;> (conv => whnf)))
    exact hK hh hk
end
end Go.Eng
