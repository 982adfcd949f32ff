/-
Mail is taken from any place.
-/
import Derived.Test.YtomcdckppplieaaGreatNet2
set_option linter.unusedVariables false
set_option linter.unusedSimpArgs false
namespace Go.Eng
open Go
theorem rem_at {x : Int} {n : Nat} (hn : 0 < n) (hb : n ≤ 1000) : ∃ m : Nat, m < n ∧ (x.tmod n + n).tmod n = (m : Int) ∧ (-9223372036854775808 ≤ x.tmod n + n ∧ x.tmod n + n ≤ 9223372036854775807) := by
  have h1 : x.tmod n < n := Int.tmod_lt_of_pos x (by omega)
  have h2 := Int.lt_tmod_of_pos x (b := (n : Int)) (by omega)
  refine ⟨((x.tmod n + n).tmod n).toNat, ?_, ?_, by omega⟩
  · have h3 : (x.tmod n + n).tmod n < n := Int.tmod_lt_of_pos _ (by omega)
    have h4 : 0 ≤ (x.tmod n + n).tmod n := Int.tmod_nonneg _ (by omega)
    omega
  · have h4 : 0 ≤ (x.tmod n + n).tmod n := Int.tmod_nonneg _ (by omega)
    omega
section
variable {P : Program} (hG : FnsOk P AF.fns.get)
include hG
set_option maxHeartbeats 4000000 in
theorem take_at {h : Heap} {a : Nat} {most : Int} {L : List MailD} (ha : NetAt h a most L) (hl : L.length ≤ 1000) (hm : ∀ m ∈ L, m.b.length ≤ 1000) (x : Int) (keep : Bool) {K : V → Heap → Prop}
    (h0 : L = [] → K (.tup [.agg mail0, .b false]) h) (hK : ∀ m k, L[k]? = some m → k < L.length → (x.tmod L.length + L.length).tmod L.length = (k : Int) → ∀ h', NetAt h' a most (if keep then L else delD L k) → K (.tup [.agg (mailR m), .b true]) h') :
    ACall P 26 [.p (.g a) 0, .i .i64 x, .b keep] h K := by
  have hle := fun K => len_at (K := K) hG ha
  obtain ⟨han, ⟨rfl, h1⟩ | ⟨c, d, hca, hcn, h1, h2⟩⟩ := ha
  · refine fn_sp (hG _ AF.f26 rfl) rfl ?_
    ((conv => whnf); repeat ((first | refine SCall.app (hle _) ?_ | refine SIf.ff rfl ?_ | refine SIf.tt rfl ?_ | refine SOpt.of rfl ?_ | refine SChk.mk rfl ?_ | refine SSame.mk rfl ?_ | refine SEx.of (h1) ?_ | refine SEx.of rfl ?_) <;> (conv => whnf)))
    exact h0 rfl
  · have hne2 : a ≠ c := fun e => hca e.symm
    by_cases hL : L = []
    · subst hL
      refine fn_sp (hG _ AF.f26 rfl) rfl ?_
      ((conv => whnf); repeat ((first | refine SCall.app (hle _) ?_ | refine SIf.ff rfl ?_ | refine SIf.tt rfl ?_ | refine SOpt.of rfl ?_ | refine SChk.mk rfl ?_ | refine SSame.mk rfl ?_ | refine SEx.of (h1) ?_ | refine SEx.of rfl ?_) <;> (conv => whnf)))
      exact h0 rfl
    · have hpos : 0 < L.length := List.length_pos_iff.2 hL
      obtain ⟨k, hk, hke, hb1, hb2⟩ := rem_at (x := x) hpos hl
      have he := List.getElem?_eq_getElem hk
      have hem := List.getElem_mem hk
      generalize L[k] = m at he hem
      have hrl := mails_len L d
      have hcop := copied_ok hG m (by have := hm m hem; omega)
      have hel : (L.map mailR ++ List.replicate d mail0)[k]? = some (mailR m) := by
        rw [List.getElem?_append_left (by simp; omega), List.getElem?_map, he]; rfl
      have hz : (!decide (((L.length : Nat) : Int) = 0)) = true := by rw [decide_eq_false (by omega)]; rfl
      have hix : idxOk ((x.tmod L.length + L.length).tmod L.length) L.length = true := by rw [hke]; simp [idxOk]; omega
      have hget : (L.map mailR ++ List.replicate d mail0)[0 + ((x.tmod L.length + L.length).tmod L.length).toNat]? = some (mailR m) := by rw [hke]; simpa using hel
      have hdl : (delD L k).length = L.length - 1 := by simp [delD]; omega
      cases keep
      · refine fn_sp (hG _ AF.f26 rfl) rfl ?_
        have hdel := fun K => delete_at hG L d k hk hl h2 (K := K)
        rw [← hke] at hdel
        ((conv => whnf); repeat ((first | refine SCall.app (hle _) ?_ | refine SIf.df (by omega) ?_ | refine SChk.mk hz ?_ | refine SChk.mk hix ?_ | refine SWrap.w64 hb1 hb2 ?_ | refine SCall.app (Pure.go hcop rfl) ?_ | refine SWrap.w64 (by omega) (by omega) ?_ | refine SCall.app (hdel _) ?_ | refine SChk.mk (decide_eq_true (by rw [hrl]; omega)) ?_ | refine SEx.of (h1) ?_ | refine SEx.of (h2) ?_ | refine SEx.of (hget) ?_ | refine SEx.of (Heap.gs hne2 h1) ?_ | refine yf rfl ?_ | refine yt rfl ?_ | refine yo rfl ?_ | refine yc rfl ?_ | refine ys rfl ?_ | refine ye rfl ?_ | refine yn rfl ?_ | refine zw ?_ | refine zdt ?_ | refine zdf ?_ | refine znt ?_ | refine znf ?_ | refine zcd ?_ | refine zci ?_ | refine zc3 ?_) <;> (conv => whnf)))
        have hat : NetAt ((h.set c (.arr 3 ((delD L k).map mailR ++ List.replicate (d + 1) mail0))).set a (.cs [.ms (.g c) 3 0 (L.length - 1), .i .i64 most])) a most (delD L k) :=
          ⟨han, .inr ⟨c, d + 1, hca, hcn, by rw [Heap.get_set_self (Heap.gs hne2 h1), hdl], Heap.gs hca (Heap.get_set_self h2)⟩⟩
        exact hK m k he hk hke _ hat
      · refine fn_sp (hG _ AF.f26 rfl) rfl ?_
        ((conv => whnf); repeat ((first | refine SCall.app (hle _) ?_ | refine SIf.df (by omega) ?_ | refine SChk.mk hz ?_ | refine SChk.mk hix ?_ | refine SWrap.w64 hb1 hb2 ?_ | refine SCall.app (Pure.go hcop rfl) ?_ | refine SChk.mk (decide_eq_true (by rw [hrl]; omega)) ?_ | refine SEx.of (h1) ?_ | refine SEx.of (h2) ?_ | refine SEx.of (hget) ?_ | refine yf rfl ?_ | refine yt rfl ?_ | refine yo rfl ?_ | refine yc rfl ?_ | refine ys rfl ?_ | refine ye rfl ?_ | refine yn rfl ?_ | refine zw ?_ | refine zdt ?_ | refine zdf ?_ | refine znt ?_ | refine znf ?_ | refine zcd ?_ | refine zci ?_ | refine zc3 ?_) <;> (conv => whnf)))
        exact hK m k he hk hke _ ⟨han, .inr ⟨c, d, hca, hcn, h1, h2⟩⟩
end
end Go.Eng
