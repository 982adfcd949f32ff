/-
Mail is taken from any place.
-/
import Derived.Test.YtomcdckppplieaaGreatNet1
import Derived.Test.YtomcdckppplieaaGreatHp
set_option linter.unusedVariables false
set_option linter.unusedSimpArgs false
namespace Go.Eng
open Go
def delD (L : List MailD) (i : Nat) : List MailD := L.take i ++ L.drop (i + 1)
def rowsD (L : List MailD) (d : Nat) : List (List V) := L.map mailR ++ List.replicate d mail0
section
variable {P : Program} (hG : FnsOk P AF.fns.get)
include hG
set_option maxHeartbeats 4000000 in
theorem delete_at (L : List MailD) (d i : Nat) (hi : i < L.length) (hl : L.length ≤ 1000) {c : Nat} {h : Heap} (hc : h.get c = some (.arr 3 (L.map mailR ++ List.replicate d mail0))) {K : V → Heap → Prop}
    (hK : K (.ms (.g c) 3 0 (L.length - 1)) (h.set c (.arr 3 ((delD L i).map mailR ++ List.replicate (d + 1) mail0)))) :
    ACall P 61 [.ms (.g c) 3 0 L.length, .i .i64 i, .i .i64 ((i : Int) + 1)] h K := by
  have hrl := mails_len L d
  have hrows : List.take (((L.length : Nat) : Int).toNat - Int.toNat ((i : Int) + 1)) (List.drop (0 + Int.toNat ((i : Int) + 1)) (L.map mailR ++ List.replicate d mail0)) = (L.drop (i + 1)).map mailR := by
    have e1 : 0 + Int.toNat ((i : Int) + 1) = i + 1 := by omega
    have e2 : (((L.length : Nat) : Int).toNat - Int.toNat ((i : Int) + 1)) = L.length - (i + 1) := by omega
    rw [e1, e2, List.drop_append_of_le_length (by simp; omega), List.take_append_of_le_length (by simp), List.take_of_length_le (by simp), List.map_drop]
  generalize hR : L.map mailR ++ List.replicate d mail0 = R0 at hc hrows hrl
  have hA : ((delD L i).map mailR).length = L.length - 1 := by simp [delD]; omega
  have hT : R0.drop L.length = List.replicate d mail0 := by rw [← hR, List.drop_append_of_le_length (by simp), List.drop_of_length_le (by simp)]; rfl
  have hF : ∀ n a b : Nat, n = L.length - 1 → a = 1 → b = L.length → List.take n ((delD L i).map mailR ++ R0.drop (L.length - 1)) ++ List.replicate a mail0 ++ List.drop b ((delD L i).map mailR ++ R0.drop (L.length - 1)) = (delD L i).map mailR ++ List.replicate (d + 1) mail0 := by
    rintro n a b rfl rfl rfl
    rw [List.take_append_of_le_length (by omega), List.take_of_length_le (by omega), List.drop_append, List.drop_of_length_le (by omega), List.nil_append, hA, List.drop_drop, show L.length - 1 + (L.length - (L.length - 1)) = L.length by omega, hT, List.append_assoc, show List.replicate 1 mail0 ++ List.replicate d mail0 = List.replicate (d + 1) mail0 from rfl]
  refine fn_sp (hG _ AF.f61 rfl) rfl ?_
  ((conv => whnf); repeat ((first | refine SIf.df (by omega) ?_ | refine SChk.mk (by simp; omega) ?_ | refine SIf.ff rfl ?_ | refine SIf.tt rfl ?_ | refine SOpt.of rfl ?_ | refine SChk.mk rfl ?_ | refine SSame.mk rfl ?_ | refine SEx.of (hc) ?_ | refine SEx.of ((Heap.get_set_self (hc))) ?_ | refine SEx.of ((Heap.get_set_self (Heap.get_set_self (hc)))) ?_ | refine SEx.of ((Heap.get_set_self (Heap.get_set_self (Heap.get_set_self (hc))))) ?_ | refine SEx.of rfl ?_) <;> (conv => whnf)))
  cases hD : L.drop (i + 1) with
  | nil =>
    rw [hD] at hrows
    have hi1 : i = L.length - 1 := by
      have := congrArg List.length hD
      simp at this; omega
    ((conv => whnf); repeat ((first | refine SIf.tt (by rw [hrows]; rfl) ?_ | refine SChk.mk (by simp; omega) ?_ | refine SChk.mk (decide_eq_true (by omega)) ?_ | refine SIf.ff rfl ?_ | refine SIf.tt rfl ?_ | refine SOpt.of rfl ?_ | refine SChk.mk rfl ?_ | refine SSame.mk rfl ?_ | refine SEx.of (hc) ?_ | refine SEx.of ((Heap.get_set_self (hc))) ?_ | refine SEx.of ((Heap.get_set_self (Heap.get_set_self (hc)))) ?_ | refine SEx.of ((Heap.get_set_self (Heap.get_set_self (Heap.get_set_self (hc))))) ?_ | refine SEx.of rfl ?_) <;> (conv => whnf)))
    refine K_to hK (by rw [hi1]; congr 1 <;> omega) ?_
    have hE : (delD L i).map mailR ++ R0.drop (L.length - 1) = R0 := by
      rw [delD, hD, List.append_nil, hi1, List.map_take, ← hR]
      conv => rhs; rw [← List.take_append_drop (L.length - 1) (L.map mailR ++ List.replicate d mail0)]
      rw [List.take_append_of_le_length (by simp)]
    have h3 := hF (0 + Int.toNat 0 + (((((i : Int).toNat - Int.toNat 0 : Nat)) : Int)).toNat) ((((L.length : Nat) : Int)).toNat - (((((i : Int).toNat - Int.toNat 0 : Nat)) : Int)).toNat) (0 + Int.toNat 0 + (((((i : Int).toNat - Int.toNat 0 : Nat)) : Int)).toNat + ((((L.length : Nat) : Int)).toNat - (((((i : Int).toNat - Int.toNat 0 : Nat)) : Int)).toNat)) (by omega) (by omega) (by omega)
    rw [hE] at h3
    exact congrArg (fun x => h.set c (.arr 3 x)) h3.symm
  | cons x r =>
    have hxl : (x :: r).length = L.length - (i + 1) := by rw [← hD]; simp
    rw [hD] at hrows
    have hown : ownElems true ((x :: r).map mailR) = some ((x :: r).map mailR) := own_mp (fun _ => rfl) _
    have hE : List.take (0 + Int.toNat 0 + ((i : Int).toNat - Int.toNat 0)) R0 ++ List.map mailR (x :: r) ++ List.drop (0 + Int.toNat 0 + ((i : Int).toNat - Int.toNat 0) + (List.map mailR (x :: r)).length) R0 = (delD L i).map mailR ++ R0.drop (L.length - 1) := by
      rw [show 0 + Int.toNat 0 + ((i : Int).toNat - Int.toNat 0) = i by omega, List.length_map, hxl, show i + (L.length - (i + 1)) = L.length - 1 by omega, delD, hD, List.map_append, ← hR, List.take_append_of_le_length (by simp; omega), List.map_take]
    have hEl : ((delD L i).map mailR ++ R0.drop (L.length - 1)).length = L.length + d := by rw [List.length_append, hA, List.length_drop, hrl]; omega
    generalize (delD L i).map mailR ++ R0.drop (L.length - 1) = E at hE hEl hF
    have hml : (List.map mailR (x :: r)).length = L.length - (i + 1) := by rw [List.length_map, hxl]
    ((conv => whnf); repeat ((first | refine SIf.ff (by rw [hrows]; rfl) ?_ | refine SChk.mk (by rw [hrows, List.length_map, hxl]; simp [roomOk]; omega) ?_ | refine SEx.of (by rw [hrows]; exact hown) ?_ | refine SChk.mk (decide_eq_true (by omega)) ?_ | refine SIf.dt (by omega) ?_ | refine SEx.of (congrArg some hE) ?_ | refine SChk.d3 (by omega) (by omega) (by omega) ?_ | refine SChk.mk (decide_eq_true (by omega)) ?_ | refine SIf.ff rfl ?_ | refine SIf.tt rfl ?_ | refine SOpt.of rfl ?_ | refine SChk.mk rfl ?_ | refine SSame.mk rfl ?_ | refine SEx.of (hc) ?_ | refine SEx.of ((Heap.get_set_self (hc))) ?_ | refine SEx.of ((Heap.get_set_self (Heap.get_set_self (hc)))) ?_ | refine SEx.of ((Heap.get_set_self (Heap.get_set_self (Heap.get_set_self (hc))))) ?_ | refine SEx.of rfl ?_) <;> (conv => whnf)))
    have h3 := hF (0 + Int.toNat 0 + (((((i : Int).toNat - Int.toNat 0 + (List.map mailR (x :: r)).length : Nat)) : Int)).toNat) ((((L.length : Nat) : Int)).toNat - (((((i : Int).toNat - Int.toNat 0 + (List.map mailR (x :: r)).length : Nat)) : Int)).toNat) (0 + Int.toNat 0 + (((((i : Int).toNat - Int.toNat 0 + (List.map mailR (x :: r)).length : Nat)) : Int)).toNat + ((((L.length : Nat) : Int)).toNat - (((((i : Int).toNat - Int.toNat 0 + (List.map mailR (x :: r)).length : Nat)) : Int)).toNat)) (by omega) (by omega) (by omega)
    refine K_to hK (by congr 1 <;> omega) ?_
    show _ = (h.set c (.arr 3 E)).set c _
    rw [heap_ss]
    exact congrArg (fun x => h.set c (.arr 3 x)) h3.symm
end
end Go.Eng
