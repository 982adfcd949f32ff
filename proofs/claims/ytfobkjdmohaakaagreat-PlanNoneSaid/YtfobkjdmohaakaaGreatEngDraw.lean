/-
Quiet operations: what they yield hangs on nothing but their operands and the objects that they look at.
-/
import Derived.Test.YtfobkjdmohaakaaGreatEngWp
namespace Go.Eng
open Go
mutual
theorem V.beq_eq : ∀ {v u : V}, V.beq v u = true → v = u
  | .b x, u, h => by cases u <;> simp [V.beq] at h <;> simp [h]
  | .i k n, u, h => by cases u <;> simp [V.beq] at h <;> simp [h]
  | .s x, u, h => by cases u <;> simp [V.beq] at h <;> simp [h]
  | .nilp, u, h => by cases u <;> simp [V.beq] at h <;> rfl
  | .p k o, u, h => by cases u <;> simp [V.beq] at h <;> simp [h]
  | .pa k z j o, u, h => by cases u <;> simp [V.beq] at h <;> simp [h]
  | .pc _ _, u, h => by cases u <;> simp [V.beq] at h
  | .nils, u, h => by cases u <;> simp [V.beq] at h <;> rfl
  | .sl t z es, u, h => by
    cases u <;> simp [V.beq] at h
    have := V.beqLL_eq h.2
    simp [h.1, this]
  | .ms k z u' l, u, h => by cases u <;> simp [V.beq] at h <;> simp [h]
  | .nilm, u, h => by cases u <;> simp [V.beq] at h <;> rfl
  | .m k, u, h => by cases u <;> simp [V.beq] at h <;> simp [h]
  | .fn _ _ _, u, h => by cases u <;> simp [V.beq] at h
  | .nilf, u, h => by cases u <;> simp [V.beq] at h <;> rfl
  | .agg cs, u, h => by
    cases u <;> simp [V.beq] at h
    rw [V.beqL_eq h]
  | .tup cs, u, h => by
    cases u <;> simp [V.beq] at h
    rw [V.beqL_eq h]
  | .junk, u, h => by cases u <;> simp [V.beq] at h
theorem V.beqL_eq : ∀ {l r : List V}, V.beqL l r = true → l = r
  | [], r, h => by cases r <;> simp [V.beqL] at h <;> rfl
  | v :: l, r, h => by
    cases r <;> simp [V.beqL] at h
    rw [V.beq_eq h.1, V.beqL_eq h.2]
theorem V.beqLL_eq : ∀ {l r : List (List V)}, V.beqLL l r = true → l = r
  | [], r, h => by cases r <;> simp [V.beqLL] at h <;> rfl
  | v :: l, r, h => by
    cases r <;> simp [V.beqLL] at h
    rw [V.beqL_eq h.1, V.beqLL_eq h.2]
end

/-- Asks nothing of chance nor of a callee, and leaves the state as it is. -/
def T.QuietAt (st : St) : T R → Prop
  | .ret r => r.2 = st
  | .ite _ a b => a.QuietAt st ∧ b.QuietAt st
  | .elem _ k => ∀ x, (k x).QuietAt st
  | .byte _ k => ∀ x, (k x).QuietAt st
  | .els _ k => ∀ x, (k x).QuietAt st
  | .bys _ k => ∀ x, (k x).QuietAt st
  | .obj _ k => ∀ x, (k x).QuietAt st
  | .optc _ n k => n.QuietAt st ∧ ∀ x, (k x).QuietAt st
  | .chk _ k => k.QuietAt st
  | .wrap _ _ k => ∀ x, (k x).QuietAt st
  | .any _ => False
  | .same _ _ k => k.QuietAt st
  | .call _ _ _ _ => False
  | .fail => True

/-- It yields just this, and leaves the state as it is. -/
def T.Yields (A : CallP) (st : St) (t : T R) (v : V) : Prop := ∀ K : R → Prop, K (v, st) → t.wp A K

theorem T.quiet_run {st : St} {A : CallP} : ∀ {t : T R} {K : R → Prop}, t.QuietAt st → t.wp A K → ∃ v, t.Yields A st v ∧ K (v, st)
  | .ret r, K, hq, h => by
    obtain ⟨v, s⟩ := r
    simp only [T.QuietAt] at hq
    subst hq
    exact ⟨v, fun K' h' => h', h⟩
  | .ite c a b, K, hq, h => by
    cases c with
    | true =>
      obtain ⟨v, h1, h2⟩ := T.quiet_run hq.1 (h.1 rfl)
      exact ⟨v, fun K' h' => wIf_t rfl (h1 K' h'), h2⟩
    | false =>
      obtain ⟨v, h1, h2⟩ := T.quiet_run hq.2 (h.2 rfl)
      exact ⟨v, fun K' h' => wIf_f rfl (h1 K' h'), h2⟩
  | .elem o k, K, hq, ⟨x, hx, h⟩ => by
    obtain ⟨v, h1, h2⟩ := T.quiet_run (hq x) h
    exact ⟨v, fun K' h' => ⟨x, hx, h1 K' h'⟩, h2⟩
  | .byte o k, K, hq, ⟨x, hx, h⟩ => by
    obtain ⟨v, h1, h2⟩ := T.quiet_run (hq x) h
    exact ⟨v, fun K' h' => ⟨x, hx, h1 K' h'⟩, h2⟩
  | .els o k, K, hq, ⟨x, hx, h⟩ => by
    obtain ⟨v, h1, h2⟩ := T.quiet_run (hq x) h
    exact ⟨v, fun K' h' => ⟨x, hx, h1 K' h'⟩, h2⟩
  | .bys o k, K, hq, ⟨x, hx, h⟩ => by
    obtain ⟨v, h1, h2⟩ := T.quiet_run (hq x) h
    exact ⟨v, fun K' h' => ⟨x, hx, h1 K' h'⟩, h2⟩
  | .obj o k, K, hq, ⟨x, hx, h⟩ => by
    obtain ⟨v, h1, h2⟩ := T.quiet_run (hq x) h
    exact ⟨v, fun K' h' => ⟨x, hx, h1 K' h'⟩, h2⟩
  | .optc o n k, K, hq, h => by
    cases o with
    | none =>
      obtain ⟨v, h1, h2⟩ := T.quiet_run hq.1 (h.1 rfl)
      exact ⟨v, fun K' h' => wOpt_n rfl (h1 K' h'), h2⟩
    | some x =>
      obtain ⟨v, h1, h2⟩ := T.quiet_run (hq.2 x) (h.2 x rfl)
      exact ⟨v, fun K' h' => wOpt_i rfl (h1 K' h'), h2⟩
  | .chk c k, K, hq, h => by
    obtain ⟨v, h1, h2⟩ := T.quiet_run (t := k) hq h.2
    exact ⟨v, fun K' h' => ⟨h.1, h1 K' h'⟩, h2⟩
  | .wrap kd n k, K, hq, h => by
    obtain ⟨v, h1, h2⟩ := T.quiet_run (hq _) (wWrap_iff.1 h)
    exact ⟨v, fun K' h' => .inl (h1 K' h'), h2⟩
  | .any k, K, hq, h => hq.elim
  | .same v u k, K, hq, h => by
    obtain ⟨x, h1, h2⟩ := T.quiet_run (t := k) hq h.2
    exact ⟨x, fun K' h' => ⟨h.1, h1 K' h'⟩, h2⟩
  | .call _ _ _ _, K, hq, h => hq.elim
  | .fail, K, _, h => h.elim

def quietOp : AOp → Bool
  | .mv _ => true
  | .asg _ => true
  | .pick _ _ _ => true
  | .bld _ _ => true
  | .load _ _ => true
  | .nilc _ => true
  | .bin _ _ _ => true
  | .eqc _ _ _ _ _ => true
  | .un _ _ => true
  | .cvi _ _ => true
  | .cvs _ => true
  | .s2b .fz _ => true
  | .bsl .fz _ _ _ _ => true
  | .mkb _ => true
  | .b2s _ => true
  | .mkfn _ _ => true
  | .slstr _ _ _ => true
  | .slsl _ _ _ _ _ => true
  | .faddr _ _ => true
  | .fld _ _ _ => true
  | .iasl _ _ _ => true
  | .iaar _ _ _ _ => true
  | .ixs _ _ => true
  | .ixa _ _ _ _ _ => true
  | .lkp _ _ _ _ _ => true
  | .ext _ _ => true
  | .lenS _ => true
  | .lenL _ => true
  | .lenA _ => true
  | .lenM _ => true
  | .mnmx _ _ => true
  | _ => false

theorem T.opt_quiet {α : Type} {st : St} {o : Option α} {k : α → T R} (h : ∀ x, (k x).QuietAt st) : (T.opt o k).QuietAt st := by
  cases o with
  | none => trivial
  | some x => exact h x
theorem stepBin_quiet {op : BinOp} {x y : V} {st : St} : (stepBin op x y st).QuietAt st := by
  unfold stepBin
  split
  · cases op <;> simp only [T.QuietAt] <;> (try split) <;> simp [T.QuietAt]
  · cases op <;> simp [T.QuietAt]
  · trivial
theorem elemsOf_quiet {sz : Nat} {st : St} {v : V} {k : List (List V) → T R} (h : ∀ x, (k x).QuietAt st) : (elemsOf sz st v k).QuietAt st := by
  unfold elemsOf
  split
  · exact h _
  · split
    · exact h _
    · trivial
  · split
    · intro o
      dsimp only
      split
      · split
        · exact h _
        · trivial
      · trivial
    · trivial
  · split
    · exact h _
    · trivial
  · trivial
theorem quiet_step {o : AOp} (h : quietOp o = true) (fr : Fr) (st : St) : (step o fr st).QuietAt st := by
  cases o <;> simp only [quietOp, Bool.false_eq_true] at h <;> simp only [step]
  case mv => rfl
  case asg => rfl
  case pick => split <;> simp [T.QuietAt]
  case bld => exact T.opt_quiet fun _ => rfl
  case load =>
    split
    · intro o; dsimp only; split
      · exact T.opt_quiet fun _ => rfl
      · trivial
    · intro o; dsimp only; split
      · split
        · intro e; exact T.opt_quiet fun _ => rfl
        · trivial
      · trivial
    · exact T.opt_quiet fun _ => rfl
    · trivial
  case nilc => split <;> first | rfl | trivial
  case bin => exact stepBin_quiet
  case eqc => exact T.opt_quiet fun _ => T.opt_quiet fun _ => T.opt_quiet fun _ => by split <;> rfl
  case un => split <;> simp [T.QuietAt]
  case cvi => split <;> simp [T.QuietAt]
  case cvs => split <;> first | rfl | trivial
  case s2b m x =>
    cases m <;> simp only [Bool.false_eq_true] at h
    split
    · intro e; rfl
    · trivial
  case bsl m sz len zero parts =>
    cases m <;> simp only [Bool.false_eq_true] at h
    exact T.opt_quiet fun _ _ => rfl
  case mkb =>
    split
    · intro o; dsimp only; split <;> first | rfl | trivial
    · intro o; dsimp only; split <;> first | rfl | trivial
    · trivial
  case b2s => exact elemsOf_quiet fun _ _ => rfl
  case mkfn => rfl
  case slstr =>
    split
    · exact T.opt_quiet fun _ => T.opt_quiet fun _ => rfl
    · trivial
  case slsl =>
    split
    · split
      · exact T.opt_quiet fun _ => T.opt_quiet fun _ => rfl
      · trivial
    · split
      · split
        · split
          · exact T.opt_quiet fun _ => rfl
          · exact T.opt_quiet fun _ => T.opt_quiet fun _ => rfl
        · trivial
      · trivial
    · split
      · exact T.opt_quiet fun _ => T.opt_quiet fun _ => by
          intro o
          dsimp only
          split
          · split
            · split
              · rfl
              · exact T.opt_quiet fun _ => rfl
            · trivial
          · trivial
      · trivial
    · trivial
  case faddr => split <;> first | rfl | trivial
  case fld => split <;> first | exact T.opt_quiet fun _ => rfl | trivial
  case iasl =>
    split
    · split
      · split
        · intro e; rfl
        · trivial
      · split
        · rfl
        · trivial
      · trivial
    · trivial
  case iaar =>
    split
    · simp only [T.QuietAt]; split <;> first | rfl | trivial
    · trivial
  case ixs => split <;> simp [T.QuietAt]
  case ixa =>
    split
    · exact T.opt_quiet fun _ => rfl
    · trivial
  case lkp =>
    split
    · split
      · unfold lkpRes; split <;> simp [T.QuietAt]
      · intro o; dsimp only; split
        · split
          · unfold lkpRes; split <;> simp [T.QuietAt]
          · trivial
        · trivial
      · trivial
    · trivial
  case ext => split <;> first | exact T.opt_quiet fun _ => rfl | trivial
  case lenS => split <;> first | rfl | trivial
  case lenL => split <;> first | rfl | trivial
  case lenA => rfl
  case lenM =>
    split
    · rfl
    · intro o; dsimp only; split <;> first | rfl | trivial
    · trivial
  case mnmx => split <;> first | exact T.opt_quiet fun _ => rfl | trivial

def pureOp : AOp → Bool
  | .load _ _ => false
  | .b2s _ => false
  | .mkb _ => false
  | .slsl _ _ _ _ _ => false
  | .lkp _ _ _ _ _ => false
  | .lenM _ => false
  | o => quietOp o
theorem opt_pure {α : Type} {A' : CallP} {o : Option α} {k k' : α → T R} {K K' : R → Prop} (h : ∀ x, (k x).wp A' K → (k' x).wp A' K') : (T.opt o k).wp A' K → (T.opt o k').wp A' K' := by
  cases o with
  | none => exact id
  | some x => exact h x
theorem stepBin_pure {A' : CallP} {op : BinOp} {x y : V} {st st' : St} {K : R → Prop} : (stepBin op x y st).wp A' (fun r => K (r.1, st')) → (stepBin op x y st').wp A' K := by
  unfold stepBin
  split
  · rename_i k a k' c
    by_cases hk : k = k'
    · subst hk
      cases op <;> simp only [if_true] <;> exact id
    · cases op <;> simp only [if_neg hk] <;> exact id
  · cases op <;> exact id
  · exact False.elim
theorem pure_step {o : AOp} (h : pureOp o = true) (A' : CallP) (fr : Fr) (st st' : St) (K : R → Prop) : (step o fr st).wp A' (fun r => K (r.1, st')) → (step o fr st').wp A' K := by
  cases o <;> simp only [pureOp, quietOp, Bool.false_eq_true] at h <;> simp only [step]
  case mv => exact id
  case asg => exact id
  case pick => split <;> exact id
  case bld => exact opt_pure fun _ => id
  case nilc => split <;> exact id
  case bin => exact stepBin_pure
  case eqc => exact opt_pure fun _ => opt_pure fun _ => opt_pure fun _ => by split <;> exact id
  case un => split <;> exact id
  case cvi => split <;> exact id
  case cvs => split <;> exact id
  case mkfn => exact id
  case slstr =>
    split
    · exact opt_pure fun _ => opt_pure fun _ => id
    · exact id
  case bsl m sz len zero parts =>
    cases m with
    | fz => exact opt_pure fun _ => id
    | im g => exact absurd h (by simp)
    | mu g => exact absurd h (by simp)
  case s2b m x =>
    cases m with
    | fz => split <;> exact id
    | im g => exact absurd h (by simp)
    | mu g => exact absurd h (by simp)
  case faddr => split <;> exact id
  case fld =>
    split
    · exact opt_pure fun _ => id
    · exact id
  case iasl =>
    split
    · split
      · split <;> exact id
      · split <;> exact id
      · exact id
    · exact id
  case iaar =>
    split
    · simp only [T.wp]
      intro h
      refine ⟨h.1, ?_⟩
      have h := h.2
      revert h
      split <;> exact id
    · exact id
  case ixs => split <;> exact id
  case ixa =>
    split
    · intro h
      refine ⟨h.1, ?_⟩
      have h := h.2
      revert h
      exact opt_pure fun _ => id
    · exact id
  case ext =>
    split
    · exact opt_pure fun _ => id
    · exact id
  case lenS => split <;> exact id
  case lenL => split <;> exact id
  case lenA => exact id
  case mnmx =>
    split
    · exact opt_pure fun _ => id
    · exact id

/-! Which slots an operation looks at. -/
def Opd.slots : Opd → List Nat
  | .t n => [n]
  | .c _ => []
def Opd.slotsL : List Opd → List Nat
  | [] => []
  | x :: r => x.slots ++ Opd.slotsL r
def Opd.slotsO : Option Opd → List Nat
  | none => []
  | some x => x.slots
def slotsB : List (Nat × Nat × Opd) → List Nat
  | [] => []
  | (_, _, x) :: r => x.slots ++ slotsB r
def slotsS : List (Nat × Opd) → List Nat
  | [] => []
  | (_, x) :: r => x.slots ++ slotsS r
def AOp.slots : AOp → List Nat
  | .mv x => x.slots
  | .asg x => x.slots
  | .pick c a b => c.slots ++ (a.slots ++ b.slots)
  | .alloc _ _ => []
  | .box _ x => x.slots
  | .bld _ ps => slotsB ps
  | .bsl _ _ _ _ ps => slotsS ps
  | .load _ a => a.slots
  | .store _ a x => a.slots ++ x.slots
  | .nilc x => x.slots
  | .bin _ x y => x.slots ++ y.slots
  | .eqc _ _ _ x y => x.slots ++ y.slots
  | .eqn _ x y => x.slots ++ y.slots
  | .un _ x => x.slots
  | .cvi _ x => x.slots
  | .cvs x => x.slots
  | .s2b _ x => x.slots
  | .mkb x => x.slots
  | .b2s x => x.slots
  | .mkfn _ c => Opd.slotsL c
  | .mkmap _ _ => []
  | .mksl _ _ _ _ l c => l.slots ++ c.slots
  | .slstr x lo hi => x.slots ++ (Opd.slotsO lo ++ Opd.slotsO hi)
  | .slsl _ x lo hi mx => x.slots ++ (Opd.slotsO lo ++ (Opd.slotsO hi ++ Opd.slotsO mx))
  | .faddr _ x => x.slots
  | .fld _ _ x => x.slots
  | .iasl _ x i => x.slots ++ i.slots
  | .iaar _ _ x i => x.slots ++ i.slots
  | .ixs x i => x.slots ++ i.slots
  | .ixa _ _ _ x i => x.slots ++ i.slots
  | .lkp _ _ m k _ => m.slots ++ k.slots
  | .mupd _ m k v => m.slots ++ (k.slots ++ v.slots)
  | .ext x _ => x.slots
  | .call _ as => Opd.slotsL as
  | .callv f as => f.slots ++ Opd.slotsL as
  | .lenS x => x.slots
  | .lenL x => x.slots
  | .lenA _ => []
  | .lenM x => x.slots
  | .mnmx _ xs => Opd.slotsL xs
  | .append _ _ _ s x => s.slots ++ x.slots
  | .copy _ d x => d.slots ++ x.slots
  | .delete _ m k => m.slots ++ k.slots
  | .clear _ _ x => x.slots
  | .no => []

section
variable {fr fr' : Fr}
theorem ev_congr {x : Opd} (h : ∀ t ∈ x.slots, fr.get t = fr'.get t) : x.ev fr = x.ev fr' := by
  cases x with
  | t n => exact h n (.head _)
  | c v => rfl
theorem evs_congr : ∀ {l : List Opd}, (∀ t ∈ Opd.slotsL l, fr.get t = fr'.get t) → Opd.evs fr l = Opd.evs fr' l
  | [], _ => rfl
  | x :: r, h => by
    simp only [Opd.evs]
    rw [ev_congr (fun t ht => h t (List.mem_append_left _ ht)), evs_congr (fun t ht => h t (List.mem_append_right _ ht))]
theorem evo_congr {x : Option Opd} (h : ∀ t ∈ Opd.slotsO x, fr.get t = fr'.get t) : Opd.evo fr x = Opd.evo fr' x := by
  cases x with
  | none => rfl
  | some x => simp only [Opd.evo]; rw [ev_congr h]
theorem evB_congr : ∀ {l : List (Nat × Nat × Opd)}, (∀ t ∈ slotsB l, fr.get t = fr'.get t) → evPartsB fr l = evPartsB fr' l
  | [], _ => rfl
  | (a, b, x) :: r, h => by
    simp only [evPartsB]
    rw [ev_congr (fun t ht => h t (List.mem_append_left _ ht)), evB_congr (fun t ht => h t (List.mem_append_right _ ht))]
theorem evS_congr : ∀ {l : List (Nat × Opd)}, (∀ t ∈ slotsS l, fr.get t = fr'.get t) → evPartsS fr l = evPartsS fr' l
  | [], _ => rfl
  | (a, x) :: r, h => by
    simp only [evPartsS]
    rw [ev_congr (fun t ht => h t (List.mem_append_left _ ht)), evS_congr (fun t ht => h t (List.mem_append_right _ ht))]
theorem step_congr {o : AOp} (h : ∀ t ∈ o.slots, fr.get t = fr'.get t) (st : St) : step o fr st = step o fr' st := by
  cases o <;> simp only [AOp.slots, List.mem_append, or_imp, forall_and] at h <;> simp only [step]
  case slsl sz x lo hi mx =>
    rw [ev_congr h.1, evo_congr h.2.1, evo_congr h.2.2.1]
    cases mx with
    | none => rfl
    | some m =>
      have hm : m.ev fr = m.ev fr' := ev_congr h.2.2.2
      simp only [hm]
  all_goals first
    | rfl
    | rw [ev_congr h]
    | rw [evs_congr h]
    | rw [evB_congr h]
    | rw [evS_congr h]
    | rw [ev_congr h.1, ev_congr h.2]
    | rw [ev_congr h.1, ev_congr h.2.1, ev_congr h.2.2]
    | rw [ev_congr h.1, evo_congr h.2.1, evo_congr h.2.2]
    | rw [ev_congr h.1, evs_congr h.2]
end
end Go.Eng
