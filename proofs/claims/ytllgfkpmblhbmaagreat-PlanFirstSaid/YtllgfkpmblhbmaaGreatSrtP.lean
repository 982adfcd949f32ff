/-
How names are compared: an order.
-/
import Derived.Test.YtllgfkpmblhbmaaGreatFitD
import Derived.Test.YtllgfkpmblhbmaaGreatEngLent
import Derived.Test.YtllgfkpmblhbmaaGreatEngB
import Derived.Test.YtllgfkpmblhbmaaGreatSync
set_option linter.unusedVariables false
set_option linter.unusedSimpArgs false
namespace Go.Eng
open Go
theorem cmpB_refl : ∀ a : Str, cmpB a a = 0
  | [] => rfl
  | a :: r => by
    unfold cmpB
    have h1 : Nat.blt a.toNat a.toNat = false := by rw [Bool.eq_false_iff]; exact fun hc => by have := (Nat.blt_eq ▸ hc : a.toNat < a.toNat); omega
    rw [h1]
    exact cmpB_refl r
theorem cmpB_neg : ∀ a b : Str, cmpB b a = - cmpB a b
  | [], [] => rfl
  | [], _ :: _ => rfl
  | _ :: _, [] => rfl
  | a :: r, b :: q => by
    unfold cmpB
    cases h1 : Nat.blt a.toNat b.toNat <;> cases h2 : Nat.blt b.toNat a.toNat
    · exact cmpB_neg r q
    · rfl
    · rfl
    · exfalso
      have e1 := (Nat.blt_eq ▸ h1 : a.toNat < b.toNat)
      have e2 := (Nat.blt_eq ▸ h2 : b.toNat < a.toNat)
      omega
theorem cmpB_lt {a b : Str} : decide (cmpB a b < 0) = Op.bytesLess a b := by
  cases h : Op.bytesLess a b with
  | true =>
    have := cmpB_of_less h
    rw [cmpB_neg a b] at this
    exact decide_eq_true (by omega)
  | false =>
    refine decide_eq_false fun hc => ?_
    by_cases e : a = b
    · rw [e, cmpB_refl] at hc; omega
    · have := cmpB_of_less (less_tri h e)
      omega
/-- Blocks of which nobody knows. -/
theorem Sim.spares {E : Env} {st : St} {w w' : World} (h : Sim E st w) {os : Array Go.Obj} (hh : w'.heap = w.heap ++ os) (h1 : w'.os = w.os) (h2 : w'.output = w.output) (h3 : w'.tape = w.tape) : Sim E st w' ∧ Ext E st w E st w' := by
  have hold : ∀ b, b < w.heap.size → w'.heap[b]? = w.heap[b]? := fun b hb => by rw [hh, Array.getElem?_append_left hb]
  have hImm : ∀ b j x, E.I b j = some x → b < w.heap.size := by
    intro b j x hx
    have := h.imm b j x hx
    simp only [cellIn] at this
    rcases Nat.lt_or_ge b w.heap.size with hl | hl
    · exact hl
    · simp [Array.getElem?_eq_none hl] at this
  refine ⟨⟨h.ng, h.nl, h.dom, fun b j x hx => ?_, fun k o hk => (h.obj k o hk).keep (Env.at_mono (.refl E) k) (hold _ (h.lt ⟨o, hk⟩)), h.sep, h.own⟩,
    ⟨.refl E, by rw [hh]; simp, fun _ _ _ h => .inl h, fun _ h _ => h, fun k h _ => .inr ⟨k, h, rfl⟩, fun b hb _ => hold b hb, h1, h2, h3⟩⟩
  have := h.imm b j x hx
  simp only [cellIn, hold b (hImm b j x hx)] at *
  exact this
theorem flat_str : ∀ (l : List Str) (j : Nat), (l.map strR).flatten[j]? = (l[j]?).map V.s
  | [], j => rfl
  | x :: r, 0 => rfl
  | x :: r, j + 1 => by
    show (strR x ++ (r.map strR).flatten)[j + 1]? = _
    rw [List.getElem?_append_right (by simp [strR])]
    simp only [strR, List.length_cons, List.length_nil, Nat.zero_add, Nat.add_sub_cancel, List.getElem?_cons_succ]
    exact flat_str r j
theorem rel_string {E : Env} {s : Str} {x : Value} (h : Rel E (.s s) x) : x = .string (str s) := by
  cases h with
  | deep hd => cases hd; rfl
/-- A slice that is written to, over elements that there are. -/
theorem rel_msS {E : Env} {k : Key} {sz s len : Nat} {x : Value} (h : Rel E (.ms k sz s len) x) (hl : 0 < len) :
    ∃ cap, x = .slice (some ⟨(E.μ k).blk, (E.μ k).base + s * sz, none⟩) len cap ∧ E.has k ∧ len ≤ cap ∧ (E.μ k).base + (s + cap) * sz = (E.μ k).fin := by
  cases h with
  | deep hd => cases hd
  | ms _ _ _ _ a cap hk hc hf hb ha =>
    rcases ha with ha | ha
    · omega
    · subst ha
      exact ⟨cap, rfl, hk, hc, hf⟩
end Go.Eng
