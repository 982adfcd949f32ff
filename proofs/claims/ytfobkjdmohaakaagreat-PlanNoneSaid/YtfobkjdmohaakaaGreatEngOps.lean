/-
Each operation of the model does what the abstract step says (part one: operands, moves, arithmetic, loads, stores).
-/
import Derived.Test.YtfobkjdmohaakaaGreatEngWp
import Derived.ArgAppend
import Derived.MapKept
import Derived.Laws.Entries
import Derived.Laws.MakeOwn
namespace Go.Eng
open Go

/-! Constants and operands. -/
def constOk : Nat → Value → V → Bool
  | 0, _, _ => false
  | n + 1, x, v => match x, v with
    | .bool p, .b q => p == q
    | .int k p, .i k' q => decide (k = k') && decide (p = q)
    | .string p, .s q => decide (p.data.toList = q)
    | .pointer none, .nilp => true
    | .slice none 0 0, .nils => true
    | .map none, .nilm => true
    | .nilFunc, .nilf => true
    | .agg cs, .agg l => decide (cs.size = l.length) && cs.all (·.oneCell') && (cs.toList.zip l).all fun q => constOk n q.1 q.2
    | .tuple cs, .tup l => decide (cs.size = l.length) && (cs.toList.zip l).all fun q => constOk n q.1 q.2
    | _, _ => false

theorem zip_all {α β : Type} {p : α × β → Bool} {l : List α} {r : List β} (h : (l.zip r).all p = true) {j : Nat} {x : α} {y : β} (hx : l[j]? = some x) (hy : r[j]? = some y) : p (x, y) = true := by
  rw [List.all_eq_true] at h
  refine h (x, y) (List.mem_of_getElem? (i := j) ?_)
  rw [List.getElem?_zip_eq_some]
  exact ⟨hx, hy⟩

theorem constOk_rel {n : Nat} : ∀ {x : Value} {v : V}, constOk n x v = true → ∀ E, Rel E v x := by
  induction n with
  | zero => intro x v h; cases h
  | succ n ih =>
    intro x v h E
    unfold constOk at h
    split at h
    · rw [beq_iff_eq] at h; subst h; exact .deep (.b _)
    · simp only [Bool.and_eq_true, decide_eq_true_eq] at h; obtain ⟨rfl, rfl⟩ := h; exact .deep (.i _ _)
    · simp only [decide_eq_true_eq] at h
      subst h
      rename_i p
      have : str p.data.toList = p := by cases p; rfl
      have h2 := RelD.s (I := E.I) p.data.toList
      rw [this] at h2
      exact .deep h2
    · exact .nilp
    · exact .deep .nils
    · exact .nilm
    · exact .nilf
    · simp only [Bool.and_eq_true, decide_eq_true_eq] at h
      refine .agg _ _ h.1.1 ?_ fun j u y hj hy => ih (zip_all h.2 (by rw [Array.getElem?_toList]; exact hy) hj) E
      intro j x hx
      exact (Array.all_eq_true_iff_forall_mem.1 h.1.2) x (Array.mem_of_getElem? hx)
    · simp only [Bool.and_eq_true, decide_eq_true_eq] at h
      exact .tup _ _ h.1 fun j u y hj hy => ih (zip_all h.2 (by rw [Array.getElem?_toList]; exact hy) hj) E
    · cases h

def okX (x : Operand) (d : Opd) : Bool :=
  match x, d with
  | .tmp t, .t n => t == n
  | .const x, .c v => constOk 4 x v
  | .func f, .c (.fn g [] []) => f == g
  | _, _ => false
def okXs : List Operand → List Opd → Bool
  | [], [] => true
  | x :: r, d :: q => okX x d && okXs r q
  | _, _ => false
def okXo : Option Operand → Option Opd → Bool
  | none, none => true
  | some x, some d => okX x d
  | _, _ => false

/-- The frame's slots, abstract and the model's. -/
structure FrRel (E : Env) (N : Nat) (fr : Fr) (a : Act) : Prop where
  size : a.tmps.size = N
  rel : ∀ t, Rel E (fr.get t) (a.tmps.getD t undef)
theorem FrRel.mono {E F : Env} (h : E.Le F) {N : Nat} {fr : Fr} {a : Act} (hf : FrRel E N fr a) : FrRel F N fr a := ⟨hf.size, fun t => (hf.rel t).mono h⟩

theorem okX_rel {x : Operand} {d : Opd} (h : okX x d = true) {E : Env} {N : Nat} {fr : Fr} {a : Act} (hf : FrRel E N fr a) : Rel E (d.ev fr) (a.eval x) := by
  unfold okX at h
  split at h
  · rw [beq_iff_eq] at h; subst h; exact hf.rel _
  · exact constOk_rel h E
  · rw [beq_iff_eq] at h
    subst h
    exact .fn _ _ _ _ _ rfl rfl (fun j v x hj => by simp at hj) (fun j v x hj => by simp at hj)
  · cases h
theorem okXs_rel {E : Env} {N : Nat} {fr : Fr} {a : Act} (hf : FrRel E N fr a) : ∀ {xs : List Operand} {ds : List Opd}, okXs xs ds = true → RelL E (Opd.evs fr ds) (xs.map a.eval).toArray := by
  intro xs
  induction xs with
  | nil =>
    intro ds h
    cases ds with
    | nil => exact ⟨rfl, fun j v x hj => by simp [Opd.evs] at hj⟩
    | cons d r => cases h
  | cons x r ih =>
    intro ds h
    cases ds with
    | nil => cases h
    | cons d q =>
      simp only [okXs, Bool.and_eq_true] at h
      have h1 := okX_rel h.1 hf
      have h2 := ih h.2
      refine ⟨by simp [Opd.evs, ← h2.1], fun j v y hj hy => ?_⟩
      cases j with
      | zero =>
        simp [Opd.evs] at hj hy
        subst hj; subst hy; exact h1
      | succ j => exact h2.2 j v y (by simpa [Opd.evs] using hj) (by simpa using hy)
theorem okXo_rel {E : Env} {N : Nat} {fr : Fr} {a : Act} (hf : FrRel E N fr a) {x : Option Operand} {d : Option Opd} (h : okXo x d = true) :
    (x = none ∧ Opd.evo fr d = none) ∨ ∃ y v, x.map a.eval = some y ∧ Opd.evo fr d = some v ∧ Rel E v y := by
  unfold okXo at h
  split at h
  · exact .inl ⟨rfl, rfl⟩
  · exact .inr ⟨_, _, rfl, rfl, okX_rel h hf⟩
  · cases h

/-! What an operation owes. -/
section
variable {P : Program} {o : Oper} {a : Act} {w : World} {next : Act → World → Prop} {Q : Exit → Act → World → Prop}
theorem wp_val {x : Value} {w' : World} (h : (execOp a.eval o).run P w = .ok (.value x) w') (hn : next (a.put o.dst x) w') : o.wp P a w next Q := by
  unfold Oper.wp; rw [h]; exact hn
theorem wp_skp {w' : World} (h : (execOp a.eval o).run P w = .ok .skip w') (hn : next (a.put o.dst undef) w') : o.wp P a w next Q := by
  unfold Oper.wp; rw [h]; exact hn
end
theorem run_v {P : Program} {s : Sem Value} {w w' : World} {x : Value} (h : s.run P w = .ok x w') : (do pure (Next.value (← s)) : Sem Next).run P w = .ok (.value x) w' := by
  simp [h]
theorem run_u {P : Program} {s : Sem Unit} {w w' : World} (h : s.run P w = .ok () w') : (do s; pure Next.skip : Sem Next).run P w = .ok .skip w' := by
  simp [h]

/-- What follows an operation: in whatever state it leaves. -/
def Cont (E : Env) (st : St) (w : World) (o : Oper) (a : Act) (next : Act → World → Prop) (K : R → Prop) : Prop :=
  ∀ v st' E' w' x, K (v, st') → Sim E' st' w' → Ext E st w E' st' w' → Rel E' v x → next (a.put o.dst x) w'

section
variable {P : Program} {o : Oper} {a : Act} {E : Env} {N : Nat} {st : St} {w : World} {fr : Fr} {next : Act → World → Prop} {Q : Exit → Act → World → Prop} {K : R → Prop}

theorem Cont.same (hc : Cont E st w o a next K) (hs : Sim E st w) {v : V} {x : Value} (hk : K (v, st)) (hr : Rel E v x) : next (a.put o.dst x) w :=
  hc v st E w x hk hs (.refl E st w) hr

theorem step_mv {x : Operand} {d : Opd} (ho : o.op = .move x) (hx : okX x d = true) (hs : Sim E st w) (hf : FrRel E N fr a)
    (hw : (step (.mv d) fr st).wp (ACall P) K) (hc : Cont E st w o a next K) : o.wp P a w next Q :=
  wp_val (x := a.eval x) (by simp [execOp, ho]) (hc.same hs hw (okX_rel hx hf))
theorem step_asg {x : Operand} {d : Opd} (ho : o.op = .assign x) (hx : okX x d = true) (hs : Sim E st w) (hf : FrRel E N fr a)
    (hw : (step (.asg d) fr st).wp (ACall P) K) (hc : Cont E st w o a next K) : o.wp P a w next Q :=
  wp_val (x := a.eval x) (by simp [execOp, ho]) (hc.same hs hw (okX_rel hx hf))
theorem Rel.bool {x : Bool} {y : Value} (h : Rel E (.b x) y) : y = .bool x := by cases h with | deep h => cases h; rfl
theorem Rel.int {k : IntKind} {n : Int} {y : Value} (h : Rel E (.i k n) y) : y = .int k n := by cases h with | deep h => cases h; rfl
theorem Rel.strv {l : List UInt8} {y : Value} (h : Rel E (.s l) y) : y = .string (str l) := by cases h with | deep h => cases h; rfl
theorem step_pick {x y z : Operand} {c d e : Opd} (ho : o.op = .pick x y z) (hx : okX x c = true) (hy : okX y d = true) (hz : okX z e = true) (hs : Sim E st w) (hf : FrRel E N fr a)
    (hw : (step (.pick c d e) fr st).wp (ACall P) K) (hc : Cont E st w o a next K) : o.wp P a w next Q := by
  have h1 := okX_rel hx hf
  simp only [step] at hw
  split at hw
  · rename_i b hb
    rw [hb] at h1
    have h1 := h1.bool
    cases b with
    | true => exact wp_val (x := a.eval y) (by simp [execOp, ho, asBool, h1]) (hc.same hs (hw.1 rfl) (okX_rel hy hf))
    | false => exact wp_val (x := a.eval z) (by simp [execOp, ho, asBool, h1]) (hc.same hs (hw.2 rfl) (okX_rel hz hf))
  · exact hw.elim
end
end Go.Eng
