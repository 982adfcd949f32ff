/-
Quiet operations: what they yield hangs on nothing but their operands and the objects that they look at.
-/
import Derived.Test.YtcmknonnlnobnaaGreatEngA
import Derived.Test.YtcmknonnlnobnaaGreatEngB
import Derived.Orders
namespace Go.Eng
open Go
mutual
theorem V.beq_eq : ∀ {v u : V}, V.beq v u = true → v = u
 | .b x, u, h => by cases u <;> simp [V.beq] at h <;> simp [h]
 | .i k n, u, h => by cases u <;> simp [V.beq] at h <;> simp [h]
 | .s x, u, h => by cases u <;> simp [V.beq] at h <;> simp [h]
 | .nilp, u, h => by cases u <;> simp [V.beq] at h <;> rfl
 | .p k o, u, h => by cases u <;> simp [V.beq] at h <;> simp [h]
 | .pa k z j o, u, h => by cases u <;> simp [V.beq] at h <;> simp [h]
 | .pc _ _, u, h => by cases u <;> simp [V.beq] at h
 | .nils, u, h => by cases u <;> simp [V.beq] at h <;> rfl
 | .sl t z es, u, h => by
   cases u <;> simp [V.beq] at h
   have := V.beqLL_eq h.2
   simp [h.1, this]
 | .ms k z u' l, u, h => by cases u <;> simp [V.beq] at h <;> simp [h]
 | .nilm, u, h => by cases u <;> simp [V.beq] at h <;> rfl
 | .m k, u, h => by cases u <;> simp [V.beq] at h <;> simp [h]
 | .fn _ _ _, u, h => by cases u <;> simp [V.beq] at h
 | .nilf, u, h => by cases u <;> simp [V.beq] at h <;> rfl
 | .agg cs, u, h => by
   cases u <;> simp [V.beq] at h
   rw [V.beqL_eq h]
 | .tup cs, u, h => by
   cases u <;> simp [V.beq] at h
   rw [V.beqL_eq h]
 | .junk, u, h => by cases u <;> simp [V.beq] at h
theorem V.beqL_eq : ∀ {l r : List V}, V.beqL l r = true → l = r
 | [], r, h => by cases r <;> simp [V.beqL] at h <;> rfl
 | v :: l, r, h => by
   cases r <;> simp [V.beqL] at h
   rw [V.beq_eq h.1, V.beqL_eq h.2]
theorem V.beqLL_eq : ∀ {l r : List (List V)}, V.beqLL l r = true → l = r
 | [], r, h => by cases r <;> simp [V.beqLL] at h <;> rfl
 | v :: l, r, h => by
   cases r <;> simp [V.beqLL] at h
   rw [V.beqL_eq h.1, V.beqLL_eq h.2]
end
def T.QuietAt (st : St) : T R → Prop
 | .ret r => r.2 = st
 | .ite _ a b => a.QuietAt st ∧ b.QuietAt st
 | .elem _ k => ∀ x, (k x).QuietAt st
 | .byte _ k => ∀ x, (k x).QuietAt st
 | .els _ k => ∀ x, (k x).QuietAt st
 | .bys _ k => ∀ x, (k x).QuietAt st
 | .obj _ k => ∀ x, (k x).QuietAt st
 | .optc _ n k => n.QuietAt st ∧ ∀ x, (k x).QuietAt st
 | .chk _ k => k.QuietAt st
 | .wrap _ _ k => ∀ x, (k x).QuietAt st
 | .any _ => False
 | .same _ _ k => k.QuietAt st
 | .call _ _ _ _ => False
 | .fail => True
def T.Yields (A : CallP) (st : St) (t : T R) (v : V) : Prop := ∀ K : R → Prop, K (v, st) → t.wp A K
theorem T.quiet_run {st : St} {A : CallP} : ∀ {t : T R} {K : R → Prop}, t.QuietAt st → t.wp A K → ∃ v, t.Yields A st v ∧ K (v, st)
 | .ret r, K, hq, h => by
   obtain ⟨v, s⟩ := r
   simp only [T.QuietAt] at hq
   subst hq
   exact ⟨v, fun K' h' => h', h⟩
 | .ite c a b, K, hq, h => by
   cases c with
   | true =>
     obtain ⟨v, h1, h2⟩ := T.quiet_run hq.1 (h.1 rfl)
     exact ⟨v, fun K' h' => wIf_t rfl (h1 K' h'), h2⟩
   | false =>
     obtain ⟨v, h1, h2⟩ := T.quiet_run hq.2 (h.2 rfl)
     exact ⟨v, fun K' h' => wIf_f rfl (h1 K' h'), h2⟩
 | .elem o k, K, hq, ⟨x, hx, h⟩ => by
   obtain ⟨v, h1, h2⟩ := T.quiet_run (hq x) h
   exact ⟨v, fun K' h' => ⟨x, hx, h1 K' h'⟩, h2⟩
 | .byte o k, K, hq, ⟨x, hx, h⟩ => by
   obtain ⟨v, h1, h2⟩ := T.quiet_run (hq x) h
   exact ⟨v, fun K' h' => ⟨x, hx, h1 K' h'⟩, h2⟩
 | .els o k, K, hq, ⟨x, hx, h⟩ => by
   obtain ⟨v, h1, h2⟩ := T.quiet_run (hq x) h
   exact ⟨v, fun K' h' => ⟨x, hx, h1 K' h'⟩, h2⟩
 | .bys o k, K, hq, ⟨x, hx, h⟩ => by
   obtain ⟨v, h1, h2⟩ := T.quiet_run (hq x) h
   exact ⟨v, fun K' h' => ⟨x, hx, h1 K' h'⟩, h2⟩
 | .obj o k, K, hq, ⟨x, hx, h⟩ => by
   obtain ⟨v, h1, h2⟩ := T.quiet_run (hq x) h
   exact ⟨v, fun K' h' => ⟨x, hx, h1 K' h'⟩, h2⟩
 | .optc o n k, K, hq, h => by
   cases o with
   | none =>
     obtain ⟨v, h1, h2⟩ := T.quiet_run hq.1 (h.1 rfl)
     exact ⟨v, fun K' h' => wOpt_n rfl (h1 K' h'), h2⟩
   | some x =>
     obtain ⟨v, h1, h2⟩ := T.quiet_run (hq.2 x) (h.2 x rfl)
     exact ⟨v, fun K' h' => wOpt_i rfl (h1 K' h'), h2⟩
 | .chk c k, K, hq, h => by
   obtain ⟨v, h1, h2⟩ := T.quiet_run (t := k) hq h.2
   exact ⟨v, fun K' h' => ⟨h.1, h1 K' h'⟩, h2⟩
 | .wrap kd n k, K, hq, h => by
   obtain ⟨v, h1, h2⟩ := T.quiet_run (hq _) (wWrap_iff.1 h)
   exact ⟨v, fun K' h' => .inl (h1 K' h'), h2⟩
 | .any k, K, hq, h => hq.elim
 | .same v u k, K, hq, h => by
   obtain ⟨x, h1, h2⟩ := T.quiet_run (t := k) hq h.2
   exact ⟨x, fun K' h' => ⟨h.1, h1 K' h'⟩, h2⟩
 | .call _ _ _ _, K, hq, h => hq.elim
 | .fail, K, _, h => h.elim
def quietOp : AOp → Bool
 | .mv _ => true
 | .asg _ => true
 | .pick _ _ _ => true
 | .bld _ _ => true
 | .load _ _ => true
 | .nilc _ => true
 | .bin _ _ _ => true
 | .eqc _ _ _ _ _ => true
 | .un _ _ => true
 | .cvi _ _ => true
 | .cvs _ => true
 | .s2b .fz _ => true
 | .bsl .fz _ _ _ _ => true
 | .mkb _ => true
 | .b2s _ => true
 | .mkfn _ _ => true
 | .slstr _ _ _ => true
 | .slsl _ _ _ _ _ => true
 | .faddr _ _ => true
 | .fld _ _ _ => true
 | .iasl _ _ _ => true
 | .iaar _ _ _ _ => true
 | .ixs _ _ => true
 | .ixa _ _ _ _ _ => true
 | .lkp _ _ _ _ _ => true
 | .ext _ _ => true
 | .lenS _ => true
 | .lenL _ => true
 | .lenA _ => true
 | .lenM _ => true
 | .mnmx _ _ => true
 | _ => false
theorem T.opt_quiet {α : Type} {st : St} {o : Option α} {k : α → T R} (h : ∀ x, (k x).QuietAt st) : (T.opt o k).QuietAt st := by
 cases o with
 | none => trivial
 | some x => exact h x
theorem stepBin_quiet {op : BinOp} {x y : V} {st : St} : (stepBin op x y st).QuietAt st := by
 unfold stepBin
 split
 · cases op <;> simp only [T.QuietAt] <;> (try split) <;> simp [T.QuietAt]
 · cases op <;> simp [T.QuietAt]
 · trivial
theorem elemsOf_quiet {sz : Nat} {st : St} {v : V} {k : List (List V) → T R} (h : ∀ x, (k x).QuietAt st) : (elemsOf sz st v k).QuietAt st := by
 unfold elemsOf
 split
 · exact h _
 · split
   · exact h _
   · trivial
 · split
   · intro o
     dsimp only
     split
     · split
       · exact h _
       · trivial
     · trivial
   · trivial
 · split
   · exact h _
   · trivial
 · trivial
theorem quiet_step {o : AOp} (h : quietOp o = true) (fr : Fr) (st : St) : (step o fr st).QuietAt st := by
 cases o <;> simp only [quietOp, Bool.false_eq_true] at h <;> simp only [step]
 case mv => rfl
 case asg => rfl
 case pick => split <;> simp [T.QuietAt]
 case bld => exact T.opt_quiet fun _ => rfl
 case load =>
  split
  · intro o; dsimp only; split
    · exact T.opt_quiet fun _ => rfl
    · trivial
  · intro o; dsimp only; split
    · split
      · intro e; exact T.opt_quiet fun _ => rfl
      · trivial
    · trivial
  · exact T.opt_quiet fun _ => rfl
  · trivial
 case nilc => split <;> first | rfl | trivial
 case bin => exact stepBin_quiet
 case eqc => exact T.opt_quiet fun _ => T.opt_quiet fun _ => T.opt_quiet fun _ => by split <;> rfl
 case un => split <;> simp [T.QuietAt]
 case cvi => split <;> simp [T.QuietAt]
 case cvs => split <;> first | rfl | trivial
 case s2b m x =>
  cases m <;> simp only [Bool.false_eq_true] at h
  split
  · intro e; rfl
  · trivial
 case bsl m sz len zero parts =>
  cases m <;> simp only [Bool.false_eq_true] at h
  exact T.opt_quiet fun _ _ => rfl
 case mkb =>
  split
  · intro o; dsimp only; split <;> first | rfl | trivial
  · intro o; dsimp only
    split
    · split <;> first | rfl | trivial
    · trivial
  · trivial
 case b2s => exact elemsOf_quiet fun _ _ => rfl
 case mkfn => rfl
 case slstr =>
  split
  · exact T.opt_quiet fun _ => T.opt_quiet fun _ => rfl
  · trivial
 case slsl =>
  split
  · split
    · exact T.opt_quiet fun _ => T.opt_quiet fun _ => rfl
    · trivial
  · split
    · split
      · split
        · exact T.opt_quiet fun _ => rfl
        · exact T.opt_quiet fun _ => T.opt_quiet fun _ => rfl
      · trivial
    · trivial
  · split
    · exact T.opt_quiet fun _ => T.opt_quiet fun _ => by
       intro o
       dsimp only
       split
       · split
         · split
           · rfl
           · exact T.opt_quiet fun _ => rfl
         · trivial
       · trivial
    · trivial
  · trivial
 case faddr => split <;> first | rfl | trivial
 case fld => split <;> first | exact T.opt_quiet fun _ => rfl | trivial
 case iasl =>
  split
  · split
    · split
      · intro e; rfl
      · trivial
    · split
      · rfl
      · trivial
    · trivial
  · trivial
 case iaar =>
  split
  · simp only [T.QuietAt]; split <;> first | rfl | trivial
  · trivial
 case ixs => split <;> simp [T.QuietAt]
 case ixa =>
  split
  · exact T.opt_quiet fun _ => rfl
  · trivial
 case lkp =>
  split
  · split
    · unfold lkpRes; split <;> simp [T.QuietAt]
    · intro o; dsimp only; split
      · split
        · unfold lkpRes; split <;> simp [T.QuietAt]
        · trivial
      · trivial
    · trivial
  · trivial
 case ext => split <;> first | exact T.opt_quiet fun _ => rfl | trivial
 case lenS => split <;> first | rfl | trivial
 case lenL => split <;> first | rfl | trivial
 case lenA => rfl
 case lenM =>
  split
  · rfl
  · intro o; dsimp only; split <;> first | rfl | trivial
  · trivial
 case mnmx => split <;> first | exact T.opt_quiet fun _ => rfl | trivial
def pureOp : AOp → Bool
 | .load _ _ => false
 | .b2s _ => false
 | .mkb _ => false
 | .slsl _ _ _ _ _ => false
 | .lkp _ _ _ _ _ => false
 | .lenM _ => false
 | o => quietOp o
theorem opt_pure {α : Type} {A' : CallP} {o : Option α} {k k' : α → T R} {K K' : R → Prop} (h : ∀ x, (k x).wp A' K → (k' x).wp A' K') : (T.opt o k).wp A' K → (T.opt o k').wp A' K' := by
 cases o with
 | none => exact id
 | some x => exact h x
theorem stepBin_pure {A' : CallP} {op : BinOp} {x y : V} {st st' : St} {K : R → Prop} : (stepBin op x y st).wp A' (fun r => K (r.1, st')) → (stepBin op x y st').wp A' K := by
 unfold stepBin
 split
 · rename_i k a k' c
   by_cases hk : k = k'
   · subst hk
     cases op <;> simp only [if_true] <;> exact id
   · cases op <;> simp only [if_neg hk] <;> exact id
 · cases op <;> exact id
 · exact False.elim
theorem pure_step {o : AOp} (h : pureOp o = true) (A' : CallP) (fr : Fr) (st st' : St) (K : R → Prop) : (step o fr st).wp A' (fun r => K (r.1, st')) → (step o fr st').wp A' K := by
 cases o <;> simp only [pureOp, quietOp, Bool.false_eq_true] at h <;> simp only [step]
 case mv => exact id
 case asg => exact id
 case pick => split <;> exact id
 case bld => exact opt_pure fun _ => id
 case nilc => split <;> exact id
 case bin => exact stepBin_pure
 case eqc => exact opt_pure fun _ => opt_pure fun _ => opt_pure fun _ => by split <;> exact id
 case un => split <;> exact id
 case cvi => split <;> exact id
 case cvs => split <;> exact id
 case mkfn => exact id
 case slstr =>
  split
  · exact opt_pure fun _ => opt_pure fun _ => id
  · exact id
 case bsl m sz len zero parts =>
  cases m with
  | fz => exact opt_pure fun _ => id
  | im g => exact absurd h (by simp)
  | mu g => exact absurd h (by simp)
 case s2b m x =>
  cases m with
  | fz => split <;> exact id
  | im g => exact absurd h (by simp)
  | mu g => exact absurd h (by simp)
 case faddr => split <;> exact id
 case fld =>
  split
  · exact opt_pure fun _ => id
  · exact id
 case iasl =>
  split
  · split
    · split <;> exact id
    · split <;> exact id
    · exact id
  · exact id
 case iaar =>
  split
  · simp only [T.wp]
    intro h
    refine ⟨h.1, ?_⟩
    have h := h.2
    revert h
    split <;> exact id
  · exact id
 case ixs => split <;> exact id
 case ixa =>
  split
  · intro h
    refine ⟨h.1, ?_⟩
    have h := h.2
    revert h
    exact opt_pure fun _ => id
  · exact id
 case ext =>
  split
  · exact opt_pure fun _ => id
  · exact id
 case lenS => split <;> exact id
 case lenL => split <;> exact id
 case lenA => exact id
 case mnmx =>
  split
  · exact opt_pure fun _ => id
  · exact id
/-! Which slots an operation looks at. -/
def Opd.slots : Opd → List Nat
 | .t n => [n]
 | .c _ => []
def Opd.slotsL : List Opd → List Nat
 | [] => []
 | x :: r => x.slots ++ Opd.slotsL r
def Opd.slotsO : Option Opd → List Nat
 | none => []
 | some x => x.slots
def slotsB : List (Nat × Nat × Opd) → List Nat
 | [] => []
 | (_, _, x) :: r => x.slots ++ slotsB r
def slotsS : List (Nat × Opd) → List Nat
 | [] => []
 | (_, x) :: r => x.slots ++ slotsS r
def AOp.slots : AOp → List Nat
 | .mv x => x.slots
 | .asg x => x.slots
 | .pick c a b => c.slots ++ (a.slots ++ b.slots)
 | .alloc _ _ => []
 | .box _ x => x.slots
 | .bld _ ps => slotsB ps
 | .bsl _ _ _ _ ps => slotsS ps
 | .load _ a => a.slots
 | .store _ a x => a.slots ++ x.slots
 | .nilc x => x.slots
 | .bin _ x y => x.slots ++ y.slots
 | .eqc _ _ _ x y => x.slots ++ y.slots
 | .eqn _ x y => x.slots ++ y.slots
 | .un _ x => x.slots
 | .cvi _ x => x.slots
 | .cvs x => x.slots
 | .s2b _ x => x.slots
 | .mkb x => x.slots
 | .b2s x => x.slots
 | .mkfn _ c => Opd.slotsL c
 | .mkmap _ _ => []
 | .mksl _ _ _ _ l c => l.slots ++ c.slots
 | .slstr x lo hi => x.slots ++ (Opd.slotsO lo ++ Opd.slotsO hi)
 | .slsl _ x lo hi mx => x.slots ++ (Opd.slotsO lo ++ (Opd.slotsO hi ++ Opd.slotsO mx))
 | .faddr _ x => x.slots
 | .fld _ _ x => x.slots
 | .iasl _ x i => x.slots ++ i.slots
 | .iaar _ _ x i => x.slots ++ i.slots
 | .ixs x i => x.slots ++ i.slots
 | .ixa _ _ _ x i => x.slots ++ i.slots
 | .lkp _ _ m k _ => m.slots ++ k.slots
 | .mupd _ m k v => m.slots ++ (k.slots ++ v.slots)
 | .ext x _ => x.slots
 | .call _ as => Opd.slotsL as
 | .callv f as => f.slots ++ Opd.slotsL as
 | .lenS x => x.slots
 | .lenL x => x.slots
 | .lenA _ => []
 | .lenM x => x.slots
 | .mnmx _ xs => Opd.slotsL xs
 | .append _ _ _ s x => s.slots ++ x.slots
 | .copy _ d x => d.slots ++ x.slots
 | .delete _ m k => m.slots ++ k.slots
 | .clear _ _ x => x.slots
 | .no => []
section
variable {fr fr' : Fr}
theorem ev_congr {x : Opd} (h : ∀ t ∈ x.slots, fr.get t = fr'.get t) : x.ev fr = x.ev fr' := by
 cases x with
 | t n => exact h n (.head _)
 | c v => rfl
theorem evs_congr : ∀ {l : List Opd}, (∀ t ∈ Opd.slotsL l, fr.get t = fr'.get t) → Opd.evs fr l = Opd.evs fr' l
 | [], _ => rfl
 | x :: r, h => by
   simp only [Opd.evs]
   rw [ev_congr (fun t ht => h t (List.mem_append_left _ ht)), evs_congr (fun t ht => h t (List.mem_append_right _ ht))]
theorem evo_congr {x : Option Opd} (h : ∀ t ∈ Opd.slotsO x, fr.get t = fr'.get t) : Opd.evo fr x = Opd.evo fr' x := by
 cases x with
 | none => rfl
 | some x => simp only [Opd.evo]; rw [ev_congr h]
theorem evB_congr : ∀ {l : List (Nat × Nat × Opd)}, (∀ t ∈ slotsB l, fr.get t = fr'.get t) → evPartsB fr l = evPartsB fr' l
 | [], _ => rfl
 | (a, b, x) :: r, h => by
  simp only [evPartsB]
  rw [ev_congr (fun t ht => h t (List.mem_append_left _ ht)), evB_congr (fun t ht => h t (List.mem_append_right _ ht))]
theorem evS_congr : ∀ {l : List (Nat × Opd)}, (∀ t ∈ slotsS l, fr.get t = fr'.get t) → evPartsS fr l = evPartsS fr' l
 | [], _ => rfl
 | (a, x) :: r, h => by
  simp only [evPartsS]
  rw [ev_congr (fun t ht => h t (List.mem_append_left _ ht)), evS_congr (fun t ht => h t (List.mem_append_right _ ht))]
theorem step_congr {o : AOp} (h : ∀ t ∈ o.slots, fr.get t = fr'.get t) (st : St) : step o fr st = step o fr' st := by
 cases o <;> simp only [AOp.slots, List.mem_append, or_imp, forall_and] at h <;> simp only [step]
 case slsl sz x lo hi mx =>
  rw [ev_congr h.1, evo_congr h.2.1, evo_congr h.2.2.1]
  cases mx with
  | none => rfl
  | some m =>
    have hm : m.ev fr = m.ev fr' := ev_congr h.2.2.2
    simp only [hm]
 all_goals first
  | rfl
  | rw [ev_congr h]
  | rw [evs_congr h]
  | rw [evB_congr h]
  | rw [evS_congr h]
  | rw [ev_congr h.1, ev_congr h.2]
  | rw [ev_congr h.1, ev_congr h.2.1, ev_congr h.2.2]
  | rw [ev_congr h.1, evo_congr h.2.1, evo_congr h.2.2]
  | rw [ev_congr h.1, evs_congr h.2]
end
end Go.Eng
/-
Regions whose order is drawn: one order serves for all.
-/
namespace Go.Eng
open Go
/-! Who waits for whom. -/
inductive Anc (ops : Array Oper) : Nat → Nat → Prop
 | edge {i : Nat} {o : Oper} {e : Edge} (ho : ops[i]? = some o) (he : e ∈ o.after) (hb : Region.binds .any e = true) : Anc ops i e.on
 | far {i j : Nat} {o : Oper} {e : Edge} (ho : ops[i]? = some o) (he : e ∈ o.after) (hb : Region.binds .any e = true) (h : Anc ops e.on j) : Anc ops i j
def look : List (Nat × Nat) → Nat → Nat
 | [], _ => 0
 | (k, l) :: r, n => match Nat.beq k n with
  | true => l
  | false => look r n
def edgesOf (o : Oper) : List Nat := (o.after.toList.filter (Region.binds .any)).map (·.on)
def inMask (j m : Nat) : Bool := Nat.testBit m j
def joinMask (tab : List (Nat × Nat)) : List Nat → Nat → Nat
 | [], m => m
 | j :: r, m => joinMask tab r (Nat.lor m (Nat.lor (Nat.shiftLeft 1 j) (look tab j)))
theorem inMask_join (tab : List (Nat × Nat)) (j : Nat) : ∀ (l : List Nat) (m : Nat), inMask j (joinMask tab l m) = true → inMask j m = true ∨ ∃ k, k ∈ l ∧ (j = k ∨ inMask j (look tab k) = true)
 | [], m, h => .inl h
 | k :: r, m, h => by
   rcases inMask_join tab j r _ h with h | ⟨q, hq, h⟩
   · simp only [inMask] at h ⊢
     have h : (m ||| ((1 <<< k) ||| look tab k)).testBit j = true := h
     rw [Nat.testBit_or, Nat.testBit_or] at h
     simp only [Bool.or_eq_true] at h
     rcases h with h | h | h
     · exact .inl h
     · refine .inr ⟨k, by simp, .inl ?_⟩
       rw [Nat.testBit_shiftLeft] at h
       simp only [ge_iff_le, Bool.and_eq_true, decide_eq_true_eq] at h
       have := Nat.testBit_one_eq_true_iff_self_eq_zero.1 h.2
       omega
     · exact .inr ⟨k, by simp, .inr h⟩
   · exact .inr ⟨q, by simp [hq], h⟩
def ancStep (ops : Array Oper) (tab : List (Nat × Nat)) (i : Nat) : List (Nat × Nat) :=
 match ops[i]? with
 | some o => (i, joinMask tab (edgesOf o) 0) :: tab
 | none => tab
def ancTab (ops : Array Oper) : List Nat → List (Nat × Nat) → List (Nat × Nat)
 | [], tab => tab
 | i :: r, tab => ancTab ops r (ancStep ops tab i)
def TabOk (ops : Array Oper) (tab : List (Nat × Nat)) : Prop := ∀ i j, inMask j (look tab i) = true → Anc ops i j
theorem ancStep_ok {ops : Array Oper} {tab : List (Nat × Nat)} (h : TabOk ops tab) (i : Nat) : TabOk ops (ancStep ops tab i) := by
 unfold ancStep
 split
 · rename_i o ho
   intro i' j hj
   simp only [look] at hj
   split at hj
   · rename_i hb
     have := Nat.eq_of_beq_eq_true hb
     subst this
     rcases inMask_join _ _ _ _ hj with hj | ⟨k, hk, hj⟩
     · simp [inMask] at hj
     simp only [edgesOf, List.mem_map, List.mem_filter] at hk
     obtain ⟨e, ⟨he, hb⟩, rfl⟩ := hk
     have he : e ∈ o.after := by simpa using he
     rcases hj with rfl | hj
     · exact .edge ho he hb
     · exact .far ho he hb (h _ _ hj)
   · exact h i' j hj
 · exact h
theorem ancTab_ok {ops : Array Oper} : ∀ (l : List Nat) {tab : List (Nat × Nat)}, TabOk ops tab → TabOk ops (ancTab ops l tab)
 | [], _, h => h
 | i :: r, _, h => ancTab_ok r (ancStep_ok h i)
def allAncs (ops : Array Oper) (l : List Nat) : List (Nat × Nat) := ancTab ops l []
theorem allAncs_ok (ops : Array Oper) (l : List Nat) : TabOk ops (allAncs ops l) := ancTab_ok l (fun i j h => by simp [look, inMask] at h)
/-! The check of a region. -/
def gSlots (g : Option (Nat × Bool)) : List Nat :=
 match g with
 | some (t, _) => [t]
 | none => []
def DOper.reads (d : DOper) : List Nat := gSlots d.o.guard ++ d.o.op.slots
def DOper.is (d : DOper) (t : Nat) : Bool :=
 match d.o.dst with
 | some n => Nat.beq n t
 | none => false
def floats (d : DOper) : Bool :=
 match d.o.op, d.o.guard with
 | .alloc _ _, none => d.loud
 | _, _ => false
def okPair (anc : List (Nat × Nat)) (d e : DOper) : Bool :=
 -- nobody writes what an earlier one looks at, or wrote
 (match e.o.dst with
 | some n => (!memNat n d.reads && !d.is n) || (e.loud && inMask d.ix (look anc e.ix))
 | none => true) &&
 -- what one looks at of the region's own comes from an ancestor
 (match d.o.dst with
 | some n => !memNat n e.reads || inMask d.ix (look anc e.ix)
 | none => true) &&
 -- behind a loud one all are its descendants, but for new objects
 (!d.loud || inMask d.ix (look anc e.ix) || floats e) &&
 -- a loud one: what was before it, and it does not wait for, is pure or looked at again
 (!e.loud || d.loud || inMask d.ix (look anc e.ix) || pureOp d.o.op || memNat d.ix e.re) &&
 (!memNat d.ix e.re || (e.loud && !d.loud)) &&
 -- a new object that nobody waits to make: nobody else's slot
 (!floats e || match e.o.dst with
 | some n => !d.is n
 | none => true)
def okPairs (anc : List (Nat × Nat)) : List DOper → Bool
 | [] => true
 | d :: r => r.all (okPair anc d) && okPairs anc r
def okOne (P : Program) (N : Nat) (ops : Array Oper) (d : DOper) : Bool :=
 match ops[d.ix]? with
 | some o => okOp P o.op d.o.op && decide (d.o.dst = o.dst) && dstOk N o.dst && guardOk ops o.guard d.o.guard && (d.loud || quietOp d.o.op) &&
    (match d.o.dst with
    | some n => !memNat n d.reads
    | none => true)
 | none => false
def okEdges (ops : Array Oper) : List Nat → List DOper → Bool
 | _, [] => true
 | seen, d :: r => (match ops[d.ix]? with
   | some o => (edgesOf o).all fun j => memNat j seen
   | none => false) && !memNat d.ix seen && okEdges ops (d.ix :: seen) r
def okDraw (P : Program) (N : Nat) (ops : Array Oper) (ds : List DOper) : Bool :=
 P.follows .mixedOrders && decide (ds.length = ops.size) && ds.all (okOne P N ops) && okPairs (allAncs ops (ds.map (·.ix))) ds && okEdges ops [] ds
/-! The moves. -/
theorem get_lit {fr : Fr} {t : Nat} {v : V} (h : fr.get t = v) (t' : Nat) : Fr.get ((t, v) :: fr.cutL [t]) t' = fr.get t' := by
 simp only [Fr.get]
 by_cases ht : t = t'
 · subst ht; rw [if_pos rfl, h]
 · rw [if_neg ht, Fr.get_cutL]
   rw [if_neg]
   simp only [memNat_iff, List.mem_singleton]
   exact fun e => ht e.symm
theorem get_next (fr : Fr) (dst : Option Nat) (v : V) (t : Nat) : (fr.next dst v []).get t = if dst = some t then v else fr.get t := by
 rw [Fr.get_next, if_neg (by simp [memNat])]
theorem gated_wp {A : CallP} {β : Type} {g : Option (Nat × Bool)} {fr : Fr} {yes no : Fr → T β} {K : β → Prop} (h : (gated g fr yes no).wp A K) :
 ∃ fr', (∀ t, fr'.get t = fr.get t) ∧ ((gateNow g fr = some true ∧ (yes fr').wp A K) ∨ (gateNow g fr = some false ∧ (no fr').wp A K)) := by
 unfold gated at h
 split at h
 · exact ⟨fr, fun _ => rfl, .inl ⟨rfl, h⟩⟩
 · rename_i t want
   split at h
   · rename_i x hx
     split at h
     · cases x with
       | true =>
         have h := h.1 rfl
         rw [Fr.cut_eq] at h
         exact ⟨_, get_lit hx, .inl ⟨by simp [gateNow, hx], h⟩⟩
       | false =>
         have h := h.2 rfl
         rw [Fr.cut_eq] at h
         exact ⟨_, get_lit hx, .inr ⟨by simp [gateNow, hx], h⟩⟩
     · cases x with
       | true =>
         have h := h.1 rfl
         rw [Fr.cut_eq] at h
         exact ⟨_, get_lit hx, .inr ⟨by simp [gateNow, hx], h⟩⟩
       | false =>
         have h := h.2 rfl
         rw [Fr.cut_eq] at h
         exact ⟨_, get_lit hx, .inl ⟨by simp [gateNow, hx], h⟩⟩
   · rename_i cs hx
     exact ⟨fr, fun _ => rfl, .inr ⟨by simp [gateNow, hx], h⟩⟩
   · exact h.elim
theorem gateNow_congr {g : Option (Nat × Bool)} {fr fr' : Fr} (h : ∀ t ∈ gSlots g, fr.get t = fr'.get t) : gateNow g fr = gateNow g fr' := by
 unfold gateNow
 cases g with
 | none => rfl
 | some q =>
   obtain ⟨t, w⟩ := q
   have ht : fr.get t = fr'.get t := h t (.head _)
   simp only [ht]
theorem gate_wanted {N : Nat} {ops : Array Oper} {E : Env} {fr : Fr} {a : Act} {o : Oper} {g : Option (Nat × Bool)} (hg : guardOk ops o.guard g = true) (hf : FrRel E N fr a) {b : Bool} (h : gateNow g fr = some b) :
 Region.wanted o (yielded ops a.tmps) = b := by
 unfold gateNow at h
 cases hgo : o.guard with
 | none =>
   cases g with
   | none => simp at h; subst h; simp [Region.wanted, hgo]
   | some q => rw [hgo] at hg; simp [guardOk] at hg
 | some q =>
   obtain ⟨j, w⟩ := q
   cases g with
   | none => rw [hgo] at hg; simp [guardOk] at hg
   | some q =>
     obtain ⟨t, w'⟩ := q
     rw [hgo] at hg
     simp only [guardOk, Bool.and_eq_true, decide_eq_true_eq] at hg
     obtain ⟨rfl, hg⟩ := hg
     split at hg
     case h_2 => cases hg
     rename_i oj hoj
     simp only [decide_eq_true_eq] at hg
     simp only at h
     split at h
     · rename_i x hx
       simp only [Option.some.injEq] at h
       have hy := yielded_b hf hoj hg hx
       subst h
       simp [Region.wanted, hgo, hy]
     · rename_i cs hx
       simp only [Option.some.injEq] at h
       have hy := yielded_t hf hoj hg hx
       subst h
       simp [Region.wanted, hgo, hy]
     · cases h
def Virt (A : CallP) (d : DOper) (fr : Fr) (st : St) : Prop :=
 (gateNow d.o.guard fr = some true ∧ ∃ v, (step d.o.op fr st).Yields A st v ∧ ∀ n, d.o.dst = some n → fr.get n = v) ∨
 (gateNow d.o.guard fr = some false ∧ ∀ n, d.o.dst = some n → fr.get n = .tup [])
theorem Virt.congr {A : CallP} {d : DOper} {fr fr' : Fr} {st : St} (h : ∀ t, t ∈ d.reads ∨ d.o.dst = some t → fr.get t = fr'.get t) (hv : Virt A d fr st) : Virt A d fr' st := by
 have hg : gateNow d.o.guard fr = gateNow d.o.guard fr' := gateNow_congr fun t ht => h t (.inl (List.mem_append_left _ ht))
 have hs : step d.o.op fr st = step d.o.op fr' st := step_congr (fun t ht => h t (.inl (List.mem_append_right _ ht))) st
 rcases hv with ⟨h1, v, h2, h3⟩ | ⟨h1, h2⟩
 · exact .inl ⟨hg ▸ h1, v, hs ▸ h2, fun n hn => by rw [← h n (.inr hn)]; exact h3 n hn⟩
 · exact .inr ⟨hg ▸ h1, fun n hn => by rw [← h n (.inr hn)]; exact h2 n hn⟩
theorem Virt.pure {A : CallP} {d : DOper} {fr : Fr} {st : St} (hp : pureOp d.o.op = true) (st' : St) (hv : Virt A d fr st) : Virt A d fr st' := by
 rcases hv with ⟨h1, v, h2, h3⟩ | h
 · refine .inl ⟨h1, v, fun K hK => pure_step hp A fr st st' K (h2 _ hK), h3⟩
 · exact .inr h
theorem recheck_wp {A : CallP} {β : Type} {re : List Nat} {fr : Fr} {st : St} {k : T β} {K : β → Prop} : ∀ {done : List DOper}, (∀ p ∈ done, memNat p.ix re = true → quietOp p.o.op = true) → (recheck re done fr st k).wp A K →
 k.wp A K ∧ ∀ p ∈ done, memNat p.ix re = true → gateNow p.o.guard fr = some true → ∃ v, (step p.o.op fr st).Yields A st v ∧ ∀ n, p.o.dst = some n → fr.get n = v
 | [], _, h => ⟨h, fun p hp => by cases hp⟩
 | p :: ps, hq, h => by
   have hq' : ∀ q ∈ ps, memNat q.ix re = true → quietOp q.o.op = true := fun q hm => hq q (.tail _ hm)
   simp only [recheck] at h
   split at h
   · rename_i hm
     split at h
     · rename_i hg
       rw [T.wp_bind] at h
       obtain ⟨v, hy, h⟩ := T.quiet_run (quiet_step (hq p (.head _) hm) fr st) h
       dsimp only at h
       have key : (∀ n, p.o.dst = some n → fr.get n = v) ∧ (recheck re ps fr st k).wp A K := by
        split at h
        · rename_i n hn
          exact ⟨fun n' hn' => (by rw [hn] at hn'; cases hn'; exact h.1), h.2⟩
        · rename_i hn
          exact ⟨fun n' hn' => (by rw [hn] at hn'; cases hn'), h⟩
       obtain ⟨i1, i2⟩ := recheck_wp hq' key.2
       refine ⟨i1, fun q hqm => ?_⟩
       rcases List.mem_cons.1 hqm with rfl | hqm
       · exact fun _ _ => ⟨v, hy, key.1⟩
       · exact i2 q hqm
     · rename_i hg
       obtain ⟨i1, i2⟩ := recheck_wp hq' h
       refine ⟨i1, fun q hqm => ?_⟩
       rcases List.mem_cons.1 hqm with rfl | hqm
       · intro _ h3; rw [hg] at h3; cases h3
       · exact i2 q hqm
     · exact h.elim
   · rename_i hm
     obtain ⟨i1, i2⟩ := recheck_wp hq' h
     refine ⟨i1, fun q hqm => ?_⟩
     rcases List.mem_cons.1 hqm with rfl | hqm
     · intro h1; rw [hm] at h1; cases h1
     · exact i2 q hqm
/-! What holds in the midst of a region. -/
def Un (listed : Array Bool) (d : DOper) : Prop := listed.getD d.ix true = false
structure EarlyAt (S : Nat) (E : Env) (st : St) (w : World) (a : Act) (d : DOper) (b : Nat) : Prop where
 size : S ≤ b
 ptr : ∀ n, d.o.dst = some n → a.tmps.getD n undef = .pointer (some ⟨b, 0, none⟩)
 obj : ∃ g zero cells t fz, d.o.op = .alloc g zero ∧ d.o.guard = none ∧ w.heap[b]? = some (.cells cells t fz) ∧ FzOk 1 fz cells.size ∧ cells.size = zero.length ∧ (∀ F, RelL F zero cells) ∧ ∀ (j : Nat) (x : Value), cells[j]? = some x → x.oneCell' = true
 apart : ∀ k, st.live k → (E.μ k).blk ≠ b
 imm : ∀ o, E.I b o = none
theorem EarlyAt.step {S : Nat} {E E' : Env} {st st' : St} {w w' : World} {a a' : Act} {d : DOper} {b : Nat} (h : EarlyAt S E st w a d b) (hx : Ext E st w E' st' w') (ha : ∀ n, d.o.dst = some n → a'.tmps.getD n undef = a.tmps.getD n undef) : EarlyAt S E' st' w' a' d b := by
 obtain ⟨g, zero, cells, t, fz, h1, h2, h3, h4⟩ := h.obj
 have hb : b < w.heap.size := (Array.getElem?_eq_some_iff.1 h3).1
 refine ⟨h.size, fun n hn => by rw [ha n hn]; exact h.ptr n hn, ⟨g, zero, cells, t, fz, h1, h2, by rw [hx.same b hb h.apart]; exact h3, h4⟩, fun k hk => ?_, fun o => ?_⟩
 · by_cases he : E.has k
   · rw [hx.le.loc k he]
     exact h.apart k (hx.keyOld k hk he)
   · rcases hx.keyNew k hk he with h5 | ⟨k0, h5, h6⟩
     · omega
     · rw [← h6]; exact h.apart k0 h5
 · cases hI : E'.I b o with
   | none => rfl
   | some x =>
     rcases hx.immNew b o x hI with h5 | h5 | ⟨k, h5, h6⟩
     · rw [h.imm o] at h5; cases h5
     · omega
     · exact absurd h6 (h.apart k h5)
structure DInv (S : Nat) (A : CallP) (N : Nat) (K : Fr × St → Prop) (pre suf : List DOper) (listed : Array Bool) (E : Env) (st : St) (w : World) (fr : Fr) (a : Act) : Prop where
 sim : Sim E st w
 size : a.tmps.size = N
 rel : ∀ t, (∀ d ∈ pre, Un listed d → d.o.dst ≠ some t) → (∀ d ∈ suf, ¬ Un listed d → d.o.dst ≠ some t) → Rel E (fr.get t) (a.tmps.getD t undef)
 early : ∃ B : Nat → Nat, (∀ d ∈ suf, ¬ Un listed d → EarlyAt S E st w a d (B d.ix)) ∧ ∀ d ∈ suf, ∀ e ∈ suf, ¬ Un listed d → ¬ Un listed e → B d.ix = B e.ix → d.ix = e.ix
 virt : ∀ d ∈ pre, Un listed d → d.loud = false ∧ Virt A d fr st
 run : ∃ done, (∀ x, x ∈ done → x ∈ pre) ∧ (∀ x, x ∈ pre → x ∈ done) ∧ (runD done suf fr st).wp A K
structure PairOk (ops : Array Oper) (d e : DOper) : Prop where
 w : ∀ n, e.o.dst = some n → (n ∉ d.reads ∧ d.o.dst ≠ some n) ∨ (e.loud = true ∧ Anc ops e.ix d.ix)
 r : ∀ n, d.o.dst = some n → n ∈ e.reads → Anc ops e.ix d.ix
 l : d.loud = true → Anc ops e.ix d.ix ∨ floats e = true
 s : e.loud = true → d.loud = false → Anc ops e.ix d.ix ∨ pureOp d.o.op = true ∨ memNat d.ix e.re = true
 q : memNat d.ix e.re = true → e.loud = true ∧ d.loud = false
 f : floats e = true → ∀ n, e.o.dst = some n → d.o.dst ≠ some n
theorem okPair_spec {ops : Array Oper} {anc : List (Nat × Nat)} (ht : TabOk ops anc) {d e : DOper} (h : okPair anc d e = true) : PairOk ops d e := by
 unfold okPair at h
 simp only [Bool.and_eq_true, Bool.or_eq_true, Bool.not_eq_true'] at h
 obtain ⟨⟨⟨⟨⟨h1, h2⟩, h3⟩, h4⟩, h5⟩, h6⟩ := h
 have hA : inMask d.ix (look anc e.ix) = true → Anc ops e.ix d.ix := fun hm => ht _ _ hm
 refine ⟨fun n hn => ?_, fun n hn hm => ?_, fun hl => ?_, fun hl hd => ?_, fun hm => ?_, fun hf n hn hd => ?_⟩
 · rw [hn] at h1
   simp only [Bool.or_eq_true, Bool.and_eq_true, Bool.not_eq_true'] at h1
   rcases h1 with h1 | h1
   · refine .inl ⟨fun hm => ?_, fun hd => ?_⟩
     · rw [memNat_iff.2 hm] at h1; exact absurd h1.1 (by simp)
     · have := h1.2
       simp [DOper.is, hd] at this
   · exact .inr ⟨h1.1, hA h1.2⟩
 · rw [hn] at h2
   simp only [Bool.or_eq_true, Bool.not_eq_true'] at h2
   rcases h2 with h2 | h2
   · rw [memNat_iff.2 hm] at h2; cases h2
   · exact hA h2
 · rcases h3 with (h3 | h3) | h3
   · rw [hl] at h3; cases h3
   · exact .inl (hA h3)
   · exact .inr h3
 · rcases h4 with (((h4 | h4) | h4) | h4) | h4
   · rw [hl] at h4; cases h4
   · rw [hd] at h4; cases h4
   · exact .inl (hA h4)
   · exact .inr (.inl h4)
   · exact .inr (.inr h4)
 · rcases h5 with h5 | h5
   · rw [hm] at h5; cases h5
   · exact h5
 · rcases h6 with h6 | h6
   · rw [hf] at h6; cases h6
   · rw [hn] at h6
     simp [DOper.is, hd] at h6
theorem DInv.advance {S : Nat} {P : Program} {ops : Array Oper} {N : Nat} {K : Fr × St → Prop} {pre suf : List DOper} {q : DOper} {listed : Array Bool} {E : Env} {st : St} {w : World} {fr : Fr} {a : Act}
 (h : DInv S (ACall P) N K pre (q :: suf) listed E st w fr a) (hp : ∀ d ∈ pre, PairOk ops d q) (hu : Un listed q) (hq : q.loud = false) (hqq : quietOp q.o.op = true) (hself : ∀ n, q.o.dst = some n → n ∉ q.reads) :
 ∃ fr', DInv S (ACall P) N K (pre ++ [q]) suf listed E st w fr' a := by
 obtain ⟨done, hd1, hd2, hrun⟩ := h.run
 simp only [runD] at hrun
 obtain ⟨fr1, hfr1, hcase⟩ := gated_wp hrun
 -- what is known of the frame behind it
 have main : ∀ (v : V), ((gateNow q.o.guard fr = some true ∧ (step q.o.op fr st).Yields (ACall P) st v) ∨ (gateNow q.o.guard fr = some false ∧ v = .tup [])) →
  (runD (q :: done) suf (fr1.next q.o.dst v []) st).wp (ACall P) K → ∃ fr', DInv S (ACall P) N K (pre ++ [q]) suf listed E st w fr' a := by
  intro v hv hr
  have hget : ∀ t, (fr1.next q.o.dst v []).get t = if q.o.dst = some t then v else fr.get t := fun t => by rw [get_next, hfr1]
  obtain ⟨B, hB1, hB2⟩ := h.early
  refine ⟨fr1.next q.o.dst v [], h.sim, h.size, fun t ht ht2 => ?_, ⟨B, fun d hd => hB1 d (.tail _ hd), fun d hd e he => hB2 d (.tail _ hd) e (.tail _ he)⟩, fun d hd hun => ?_, q :: done, ?_, ?_, hr⟩
  · rw [hget]
    have hne : q.o.dst ≠ some t := ht q (by simp) hu
    rw [if_neg hne]
    refine h.rel t (fun d hd => ht d (List.mem_append_left _ hd)) fun d hd hnu => ?_
    rcases List.mem_cons.1 hd with rfl | hd
    · exact absurd hu hnu
    · exact ht2 d hd hnu
  · rw [List.mem_append, List.mem_singleton] at hd
    rcases hd with hd | rfl
    · obtain ⟨h1, h2⟩ := h.virt d hd hun
      refine ⟨h1, h2.congr fun t ht => ?_⟩
      rw [hget, if_neg]
      intro hqt
      have := (hp d hd).w t hqt
      rcases this with this | this
      · rcases ht with ht | ht
        · exact this.1 ht
        · exact this.2 ht
      · rw [hq] at this; cases this.1
    · refine ⟨hq, ?_⟩
      have hg : gateNow d.o.guard (fr1.next d.o.dst v []) = gateNow d.o.guard fr := gateNow_congr fun t ht => by
       rw [hget, if_neg]
       intro hqt
       exact hself t hqt (List.mem_append_left _ ht)
      have hs : step d.o.op (fr1.next d.o.dst v []) st = step d.o.op fr st := step_congr (fun t ht => by
       rw [hget, if_neg]
       intro hqt
       exact hself t hqt (List.mem_append_right _ ht)) st
      have hdst : ∀ n, d.o.dst = some n → (fr1.next d.o.dst v []).get n = v := fun n hn => by rw [hget, if_pos hn]
      rcases hv with ⟨h1, h2⟩ | ⟨h1, rfl⟩
      · exact .inl ⟨by rw [hg]; exact h1, v, by rw [hs]; exact h2, hdst⟩
      · exact .inr ⟨by rw [hg]; exact h1, hdst⟩
  · intro x hx
    rcases List.mem_cons.1 hx with rfl | hx
    · simp
    · simp [hd1 x hx]
  · intro x hx
    rw [List.mem_append, List.mem_singleton] at hx
    rcases hx with hx | rfl
    · exact .tail _ (hd2 x hx)
    · exact .head _
 rcases hcase with ⟨hg, hw⟩ | ⟨hg, hw⟩
 · rw [T.wp_bind] at hw
   have hs : step q.o.op fr1 st = step q.o.op fr st := step_congr (fun t _ => hfr1 t) st
   rw [hs] at hw
   obtain ⟨v, hy, hw⟩ := T.quiet_run (quiet_step hqq fr st) hw
   dsimp only at hw
   rw [Fr.after_eq] at hw
   have hno : ∀ p ∈ done, memNat p.ix q.re = true → quietOp p.o.op = true := fun p hp' hm => by
    have := ((hp p (hd1 p hp')).q hm).1
    rw [hq] at this; cases this
   exact main v (.inl ⟨hg, hy⟩) (recheck_wp hno hw).1
 · rw [Fr.after_eq] at hw
   exact main (.tup []) (.inr ⟨hg, rfl⟩) hw
def unDsts (listed : Array Bool) : List DOper → List Nat
 | [] => []
 | d :: r => match listed.getD d.ix true, d.o.dst with
   | false, some n => n :: unDsts listed r
   | _, _ => unDsts listed r
theorem mem_unDsts {listed : Array Bool} {n : Nat} : ∀ {l : List DOper}, n ∈ unDsts listed l ↔ ∃ d ∈ l, Un listed d ∧ d.o.dst = some n
 | [] => by simp [unDsts]
 | d :: r => by
   have ih := mem_unDsts (listed := listed) (n := n) (l := r)
   cases h1 : listed.getD d.ix true with
   | true =>
     have hu : ¬ Un listed d := by simp only [Un]; rw [h1]; simp
     simp only [unDsts, h1, ih]
     constructor
     · rintro ⟨e, he, h⟩; exact ⟨e, .tail _ he, h⟩
     · rintro ⟨e, he, h⟩
       rcases List.mem_cons.1 he with rfl | he
       · exact absurd h.1 hu
       · exact ⟨e, he, h⟩
   | false =>
     have hu : Un listed d := h1
     cases h2 : d.o.dst with
     | none =>
       simp only [unDsts, h1, h2, ih]
       constructor
       · rintro ⟨e, he, h⟩; exact ⟨e, .tail _ he, h⟩
       · rintro ⟨e, he, h⟩
         rcases List.mem_cons.1 he with rfl | he
         · rw [h2] at h; cases h.2
         · exact ⟨e, he, h⟩
     | some m =>
       simp only [unDsts, h1, h2, List.mem_cons, ih]
       constructor
       · rintro (rfl | ⟨e, he, h⟩)
         · exact ⟨d, .inl rfl, hu, h2⟩
         · exact ⟨e, .inr he, h⟩
       · rintro ⟨e, he | he, h⟩
         · subst he; rw [h2] at h; left; exact (Option.some.inj h.2).symm
         · exact .inr ⟨e, he, h⟩
def elDsts (listed : Array Bool) : List DOper → List Nat
 | [] => []
 | d :: r => match listed.getD d.ix true, d.o.dst with
   | true, some n => n :: elDsts listed r
   | _, _ => elDsts listed r
theorem mem_elDsts {listed : Array Bool} {n : Nat} : ∀ {l : List DOper}, n ∈ elDsts listed l ↔ ∃ d ∈ l, ¬ Un listed d ∧ d.o.dst = some n
 | [] => by simp [elDsts]
 | d :: r => by
   have ih := mem_elDsts (listed := listed) (n := n) (l := r)
   cases h1 : listed.getD d.ix true with
   | false =>
     have hu : Un listed d := h1
     simp only [elDsts, h1, ih]
     constructor
     · rintro ⟨e, he, h⟩; exact ⟨e, .tail _ he, h⟩
     · rintro ⟨e, he, h⟩
       rcases List.mem_cons.1 he with rfl | he
       · exact absurd hu h.1
       · exact ⟨e, he, h⟩
   | true =>
     have hu : ¬ Un listed d := by simp only [Un]; rw [h1]; simp
     cases h2 : d.o.dst with
     | none =>
       simp only [elDsts, h1, h2, ih]
       constructor
       · rintro ⟨e, he, h⟩; exact ⟨e, .tail _ he, h⟩
       · rintro ⟨e, he, h⟩
         rcases List.mem_cons.1 he with rfl | he
         · rw [h2] at h; cases h.2
         · exact ⟨e, he, h⟩
     | some m =>
       simp only [elDsts, h1, h2, List.mem_cons, ih]
       constructor
       · rintro (rfl | ⟨e, he, h⟩)
         · exact ⟨d, .inl rfl, hu, h2⟩
         · exact ⟨e, .inr he, h⟩
       · rintro ⟨e, he | he, h⟩
         · subst he; rw [h2] at h; left; exact (Option.some.inj h.2).symm
         · exact .inr ⟨e, he, h⟩
def offDsts (listed : Array Bool) (pre suf : List DOper) : List Nat := unDsts listed pre ++ elDsts listed suf
theorem DInv.frame {S : Nat} {A : CallP} {N : Nat} {K : Fr × St → Prop} {pre suf : List DOper} {listed : Array Bool} {E : Env} {st : St} {w : World} {fr : Fr} {a : Act} (h : DInv S A N K pre suf listed E st w fr a) :
 FrRel E N (fr.cutL (offDsts listed pre suf)) a := by
 refine ⟨h.size, fun t => ?_⟩
 rw [Fr.get_cutL]
 split
 · exact .junk _
 · rename_i hm
   refine h.rel t (fun d hd hu hdst => hm (memNat_iff.2 (List.mem_append.2 (.inl (mem_unDsts.2 ⟨d, hd, hu, hdst⟩))))) fun d hd hu hdst => hm (memNat_iff.2 (List.mem_append.2 (.inr (mem_elDsts.2 ⟨d, hd, hu, hdst⟩))))
structure OneOk (P : Program) (N : Nat) (ops : Array Oper) (d : DOper) (o : Oper) : Prop where
 at_ : ops[d.ix]? = some o
 op : okOp P o.op d.o.op = true
 dst : d.o.dst = o.dst
 lt : ∀ n, o.dst = some n → n < N
 gd : guardOk ops o.guard d.o.guard = true
 quiet : d.loud = false → quietOp d.o.op = true
 self : ∀ n, d.o.dst = some n → n ∉ d.reads
structure DrawOk (P : Program) (N : Nat) (ops : Array Oper) (ds : List DOper) : Prop where
 md : P.follows .mixedOrders = true
 one : ∀ d ∈ ds, ∃ o, OneOk P N ops d o
 pair : ds.Pairwise (PairOk ops)
 edges : ∀ pre d suf, ds = pre ++ d :: suf → ∀ o, ops[d.ix]? = some o → ∀ e ∈ o.after, Region.binds .any e = true → ∃ p ∈ pre, p.ix = e.on
 nodup : (ds.map (·.ix)).Nodup
 all : ∀ i, i < ops.size → ∃ d ∈ ds, d.ix = i
theorem anc_listed {ops : Array Oper} {listed : Array Bool} (hcl : ∀ i o, listed.getD i false = true → ops[i]? = some o → ∀ e ∈ o.after, Region.binds .any e = true → listed.getD e.on false = true)
 {i j : Nat} (h : Anc ops i j) (hr : ∀ o, ops[i]? = some o → ∀ e ∈ o.after, Region.binds .any e = true → listed.getD e.on false = true) : listed.getD j false = true := by
 induction h with
 | edge ho he hb => exact hr _ ho _ he hb
 | far ho he hb _ ih => exact ih fun o' ho' => hcl _ o' (hr _ ho _ he hb) ho'
theorem un_not {listed : Array Bool} {d : DOper} (h : Un listed d) : listed.getD d.ix false = false := by
 simp only [Un, Array.getD_eq_getD_getElem?] at h ⊢
 cases hq : listed[d.ix]? with
 | none => rw [hq] at h; simp at h
 | some b => rw [hq] at h; simpa using h
theorem Sim.adopt {E : Env} {st : St} {w : World} (h : Sim E st w) (g : Bool) (L : Loc) (o : Obj) (ho : Holds ((E.push g L fun _ _ => none).at (E.newKey g)) w L o) (hap : ∀ k, st.live k → (E.μ k).blk ≠ L.blk) (him : ∀ j, E.I L.blk j = none) :
 Sim (E.push g L fun _ _ => none) (st.push g o) w := by
 have hle : E.Le (E.push g L fun _ _ => none) := Env.push_le _ _ _ _
 have hget : ∀ k, (st.push g o).get k = if k = E.newKey g then some o else st.get k := fun k => by rw [St.get_push, h.newKey]
 have hliv : ∀ k, (st.push g o).live k → k ≠ E.newKey g → st.live k := by
  rintro k ⟨x, hx⟩ hne
  rw [hget, if_neg hne] at hx
  exact ⟨x, hx⟩
 have hμn : (E.push g L fun _ _ => none).μ (E.newKey g) = L := Env.push_new _ _ _ _
 have hI : ∀ b j, (E.push g L fun _ _ => none).I b j = E.I b j := fun b j => by
  simp only [Env.push]
  cases E.I b j <;> rfl
 refine ⟨?_, ?_, fun k hk => ?_, fun b j x hx => ?_, fun k x hk => ?_, fun k k' hk hk' hne => ?_, fun k hk j hj1 hj2 => ?_⟩
 · have := h.ng; cases g <;> simp [St.push, Heap.push, Env.push, this]
 · have := h.nl; cases g <;> simp [St.push, Heap.push, Env.push, this]
 · by_cases hne : k = E.newKey g
   · subst hne; exact Env.push_has_new _ _ _ _
   · exact hle.has (h.dom k (hliv k hk hne))
 · rw [hI] at hx
   exact h.imm b j x hx
 · by_cases hne : k = E.newKey g
   · subst hne
     rw [hget, if_pos rfl] at hk
     cases hk
     rw [hμn]; exact ho
   · have hl := hliv k ⟨x, hk⟩ hne
     rw [hget, if_neg hne] at hk
     rw [hle.loc k (h.dom k hl)]
     exact (h.obj k x hk).keep (Env.at_mono hle k) rfl
 · by_cases h1 : k = E.newKey g
   · subst h1
     have h2 : k' ≠ E.newKey g := fun e => hne e.symm
     have hl := hliv k' hk' h2
     rw [hμn, hle.loc k' (h.dom k' hl)]
     exact fun e => hap k' hl e.symm
   · have hl := hliv k hk h1
     by_cases h2 : k' = E.newKey g
     · subst h2
       rw [hμn, hle.loc k (h.dom k hl)]
       exact hap k hl
     · have hl' := hliv k' hk' h2
       rw [hle.loc k (h.dom k hl), hle.loc k' (h.dom k' hl')]
       exact h.sep k k' hl hl' hne
 · rw [hI]
   by_cases h1 : k = E.newKey g
   · subst h1
     rw [hμn] at *
     exact him j
   · have hl := hliv k hk h1
     rw [hle.loc k (h.dom k hl)] at *
     exact h.own k hl j hj1 hj2
theorem Ext.adopt {E0 E : Env} {st0 st : St} {w0 w : World} (hx : Ext E0 st0 w0 E st w) (h : Sim E st w) (g : Bool) (L : Loc) (o : Obj) (hb : w0.heap.size ≤ L.blk) : Ext E0 st0 w0 (E.push g L fun _ _ => none) (st.push g o) w := by
 have hle : E.Le (E.push g L fun _ _ => none) := Env.push_le _ _ _ _
 have hget : ∀ k, (st.push g o).get k = if k = E.newKey g then some o else st.get k := fun k => by rw [St.get_push, h.newKey]
 have hliv : ∀ k, (st.push g o).live k → k ≠ E.newKey g → st.live k := by
  rintro k ⟨x, hx⟩ hne
  rw [hget, if_neg hne] at hx
  exact ⟨x, hx⟩
 have hI : ∀ b j, (E.push g L fun _ _ => none).I b j = E.I b j := fun b j => by
  simp only [Env.push]
  cases E.I b j <;> rfl
 refine ⟨hx.le.trans hle, hx.size, fun b j x hj => ?_, fun k hk he => ?_, fun k hk he => ?_, hx.same, hx.os, hx.out, hx.tape⟩
 · rw [hI] at hj
   exact hx.immNew b j x hj
 · have hne : k ≠ E.newKey g := fun e => E.not_has_newKey g (e ▸ hx.le.has he)
   exact hx.keyOld k (hliv k hk hne) he
 · by_cases h1 : k = E.newKey g
   · subst h1
     rw [Env.push_new]
     exact .inl hb
   · have hl := hliv k hk h1
     rw [hle.loc k (h.dom k hl)]
     exact hx.keyNew k hl he
theorem Sim.spare {E : Env} {st : St} {w w' : World} (h : Sim E st w) {ob : Go.Obj} (hh : w'.heap = w.heap.push ob) (ho : SameOut w w') : Sim E st w' ∧ Ext E st w E st w' := by
 have hold : ∀ b, b < w.heap.size → w'.heap[b]? = w.heap[b]? := fun b hb => by rw [hh, Array.getElem?_push, if_neg (by omega)]
 have hImm : ∀ b j x, E.I b j = some x → b < w.heap.size := by
  intro b j x hx
  have := h.imm b j x hx
  simp only [cellIn] at this
  rcases Nat.lt_or_ge b w.heap.size with hl | hl
  · exact hl
  · simp [Array.getElem?_eq_none hl] at this
 refine ⟨⟨h.ng, h.nl, h.dom, fun b j x hx => ?_, fun k o hk => (h.obj k o hk).keep (Env.at_mono (.refl E) k) (hold _ (h.lt ⟨o, hk⟩)), h.sep, h.own⟩,
  ⟨.refl E, by rw [hh]; simp, fun _ _ _ h => .inl h, fun _ h _ => h, fun k h _ => .inr ⟨k, h, rfl⟩, fun b hb _ => hold b hb, ho.os, ho.out, ho.tape⟩⟩
 have := h.imm b j x hx
 simp only [cellIn, hold b (hImm b j x hx)] at *
 exact this
theorem DInv.catch {S : Nat} {P : Program} {ops : Array Oper} {N : Nat} {K : Fr × St → Prop} {pre suf : List DOper} {q : DOper} {listed : Array Bool} {E : Env} {st : St} {w : World} {fr : Fr} {a : Act}
 (h : DInv S (ACall P) N K pre (q :: suf) listed E st w fr a) (hp : ∀ d ∈ pre, PairOk ops d q) (hps : ∀ e ∈ suf, e.ix ≠ q.ix) (hpo : ∀ d ∈ pre, d.loud = false → quietOp d.o.op = true) (hl : q.loud = true) (hnu : ¬ Un listed q)
 (hcl : ∀ d ∈ pre, Un listed d → ¬ Anc ops q.ix d.ix) :
 ∃ fr' E' st', DInv S (ACall P) N K (pre ++ [q]) suf listed E' st' w fr' a ∧ ∀ (E0 : Env) (st0 : St) (w0 : World), w0.heap.size = S → Ext E0 st0 w0 E st w → Ext E0 st0 w0 E' st' w := by
 obtain ⟨B, hB1, hB2⟩ := h.early
 have hE := hB1 q (.head _) hnu
 obtain ⟨g, zero, cells, t, fz, hop, hgd, hheap, hfz, hsz, hrel0, hone⟩ := hE.obj
 obtain ⟨done, hd1, hd2, hrun⟩ := h.run
 simp only [runD] at hrun
 obtain ⟨fr1, hfr1, hcase⟩ := gated_wp hrun
 replace hcase := hcase.resolve_right fun hc => by
  have hg := hc.1
  rw [hgd] at hg
  simp [gateNow] at hg
 have hw := hcase.2
 rw [T.wp_bind, hop] at hw
 simp only [step, T.wp] at hw
 rw [Fr.after_eq] at hw
 have hquiet : ∀ p ∈ done, memNat p.ix q.re = true → quietOp p.o.op = true := fun p hp' hm => hpo p (hd1 p hp') ((hp p (hd1 p hp')).q hm).2
 obtain ⟨hk1, hk2⟩ := recheck_wp hquiet hw
 have hL : ∀ F : Env, Holds F w ⟨B q.ix, 0, cells.size⟩ (.cs zero) := fun F => ⟨rfl, cells, t, fz, hheap, hfz, by simp [hsz], Nat.le_refl _, fun j v hj => by
  obtain ⟨x, hx, hr⟩ := (hrel0 F).get hj
  exact ⟨x, by simpa using hx, hr, hone j x hx⟩⟩
 have s1 := h.sim.adopt g ⟨B q.ix, 0, cells.size⟩ (.cs zero) (hL _) hE.apart hE.imm
 have hle : E.Le (E.push g ⟨B q.ix, 0, cells.size⟩ fun _ _ => none) := Env.push_le _ _ _ _
 have hget : ∀ t, (fr1.next q.o.dst (.p (st.newKey g) 0) []).get t = if q.o.dst = some t then .p (st.newKey g) 0 else fr.get t := fun t => by rw [get_next, hfr1]
 have keepF : ∀ (e : DOper), e ∈ pre → Un listed e → ∀ t, t ∈ e.reads ∨ e.o.dst = some t → fr.get t = (fr1.next q.o.dst (.p (st.newKey g) 0) []).get t := by
  intro e he heu t ht
  rw [hget, if_neg]
  intro hLt
  rcases (hp e he).w t hLt with this | this
  · rcases ht with ht | ht
    · exact this.1 ht
    · exact this.2 ht
  · exact hcl e he heu this.2
 have hI : ∀ b j, (E.push g ⟨B q.ix, 0, cells.size⟩ fun _ _ => none).I b j = E.I b j := fun b j => by
  simp only [Env.push]
  cases E.I b j <;> rfl
 refine ⟨_, _, _, ⟨s1, h.size, fun t ht ht2 => ?_, ⟨B, fun d hd hu => ?_, fun d hd e he => hB2 d (.tail _ hd) e (.tail _ he)⟩, fun e he hu => ?_, q :: done, ?_, ?_, hk1⟩, fun E0 st0 w0 hS hx => hx.adopt h.sim g _ _ (by rw [hS]; exact hE.size)⟩
 · rw [hget]
   by_cases hdt : q.o.dst = some t
   · rw [if_pos hdt, hE.ptr t hdt]
     have := Rel.p (E := E.push g ⟨B q.ix, 0, cells.size⟩ fun _ _ => none) (st.newKey g) 0 (by rw [h.sim.newKey]; exact Env.push_has_new _ _ _ _)
     rw [h.sim.newKey, Env.push_new] at this
     rw [h.sim.newKey]
     exact this
   · rw [if_neg hdt]
     refine (h.rel t (fun d hd => ht d (List.mem_append_left _ hd)) fun d hd hu => ?_).mono hle
     rcases List.mem_cons.1 hd with rfl | hd
     · exact hdt
     · exact ht2 d hd hu
 · have hd' := hB1 d (.tail _ hd) hu
   refine ⟨hd'.size, hd'.ptr, hd'.obj, fun k hk => ?_, fun o => by rw [hI]; exact hd'.imm o⟩
   by_cases h1 : k = E.newKey g
   · subst h1
     rw [Env.push_new]
     intro e
     exact hps d hd (hB2 q (.head _) d (.tail _ hd) hnu hu e).symm
   · obtain ⟨x, hx⟩ := hk
     rw [St.get_push, h.sim.newKey, if_neg h1] at hx
     rw [hle.loc k (h.sim.dom k ⟨x, hx⟩)]
     exact hd'.apart k ⟨x, hx⟩
 · rw [List.mem_append, List.mem_singleton] at he
   rcases he with he | rfl
   · obtain ⟨hv1, hv2⟩ := h.virt e he hu
     refine ⟨hv1, ?_⟩
     have hv' := hv2.congr (keepF e he hu)
     rcases (hp e he).s hl hv1 with hA | hA | hA
     · exact absurd hA (hcl e he hu)
     · exact hv'.pure hA _
     · rcases hv' with ⟨g1, _⟩ | g
       · exact .inl ⟨g1, hk2 e (hd2 e he) hA g1⟩
       · exact .inr g
   · exact absurd hu hnu
 · intro y hy
   rcases List.mem_cons.1 hy with rfl | hy
   · simp
   · simp [hd1 y hy]
 · intro y hy
   rw [List.mem_append, List.mem_singleton] at hy
   rcases hy with hy | rfl
   · exact .tail _ (hd2 y hy)
   · exact .head _
theorem DInv.normal {P : Program} {ops : Array Oper} {N : Nat} {K : Fr × St → Prop} {listed : Array Bool} {E0 : Env} {st0 : St} {w0 w : World} {a : Act} (hls : listed.size = ops.size) (hcl : ∀ i o, listed.getD i false = true → ops[i]? = some o → ∀ e ∈ o.after, Region.binds .any e = true → listed.getD e.on false = true) : ∀ {suf pre : List DOper} {fr : Fr} {E : Env} {st : St},
 DInv w0.heap.size (ACall P) N K pre suf listed E st w fr a → Ext E0 st0 w0 E st w → (pre ++ suf).Pairwise (PairOk ops) → ((pre ++ suf).map (·.ix)).Nodup → (∀ d ∈ pre ++ suf, ∃ o, OneOk P N ops d o) →
 ∃ pre' suf' fr' E' st', pre' ++ suf' = pre ++ suf ∧ DInv w0.heap.size (ACall P) N K pre' suf' listed E' st' w fr' a ∧ Ext E0 st0 w0 E' st' w ∧ ∀ d r, suf' = d :: r → d.loud = true ∧ Un listed d
 | [], pre, fr, E, st, h, hx, _, _, _ => ⟨pre, [], fr, E, st, rfl, h, hx, fun d r hd => by cases hd⟩
 | q :: suf, pre, fr, E, st, h, hx, hp, hn, ho => by
   have e : pre ++ [q] ++ suf = pre ++ q :: suf := by simp
   have hpq : ∀ d ∈ pre, PairOk ops d q := fun d hd => (List.pairwise_append.1 hp).2.2 d hd q (.head _)
   obtain ⟨o, hq⟩ := ho q (by simp)
   by_cases hu : Un listed q
   · cases hl : q.loud with
     | true => exact ⟨pre, q :: suf, fr, E, st, rfl, h, hx, fun d r hd => by cases hd; exact ⟨hl, hu⟩⟩
     | false =>
       obtain ⟨fr', h'⟩ := h.advance hpq hu hl (hq.quiet hl) hq.self
       obtain ⟨pre', suf', fr2, E2, st2, e2, h2, h3, h4⟩ := DInv.normal hls hcl h' hx (by rw [e]; exact hp) (by rw [e]; exact hn) (by rw [e]; exact ho)
       exact ⟨pre', suf', fr2, E2, st2, e2.trans e, h2, h3, h4⟩
   · have hl : q.loud = true := by
      cases hl : q.loud with
      | true => rfl
      | false =>
        obtain ⟨B, hB1, _⟩ := h.early
        obtain ⟨g, zero, cells, t, fz, hop, _⟩ := (hB1 q (.head _) hu).obj
        have := hq.quiet hl
        rw [hop] at this
        cases this
     have hqt : listed.getD q.ix false = true := by
      have hlt := (Array.getElem?_eq_some_iff.1 hq.at_).1
      rw [← hls] at hlt
      simp only [Un, Array.getD_eq_getD_getElem?, Array.getElem?_eq_getElem hlt] at hu ⊢
      simpa using hu
     obtain ⟨fr', E', st', h', hx'⟩ := h.catch hpq (fun e he hix => by
      rw [List.map_append, List.nodup_append] at hn
      have := hn.2.1
      rw [List.map_cons, List.nodup_cons] at this
      exact this.1 (hix ▸ List.mem_map_of_mem he)) (fun d hd hdl => by
      obtain ⟨od, hod⟩ := ho d (List.mem_append_left _ hd)
      exact hod.quiet hdl) hl hu (fun d hd hdu hA => by
      have := anc_listed hcl hA (fun o1 ho1 => hcl _ o1 hqt ho1)
      rw [un_not hdu] at this
      cases this)
     obtain ⟨pre', suf', fr2, E2, st2, e2, h2, h3, h4⟩ := DInv.normal hls hcl h' (hx' E0 st0 w0 rfl hx) (by rw [e]; exact hp) (by rw [e]; exact hn) (by rw [e]; exact ho)
     exact ⟨pre', suf', fr2, E2, st2, e2.trans e, h2, h3, h4⟩
section
variable {P : Program} {ops : Array Oper} {N : Nat} {K : Fr × St → Prop} {Q : Exit → Act → World → Prop}
theorem un_set {listed : Array Bool} {d e : DOper} (h : Un (listed.setIfInBounds d.ix true) e) (hd : d.ix < listed.size) : Un listed e ∧ e.ix ≠ d.ix := by
 simp only [Un, Array.getD_eq_getD_getElem?] at h ⊢
 by_cases hi : d.ix = e.ix
 · rw [hi] at h hd
   simp [hd] at h
 · rw [Array.getElem?_setIfInBounds_ne hi] at h
   exact ⟨h, fun e => hi e.symm⟩
theorem un_set' {listed : Array Bool} {d e : DOper} (h : Un listed e) (hi : e.ix ≠ d.ix) : Un (listed.setIfInBounds d.ix true) e := by
 simp only [Un, Array.getD_eq_getD_getElem?] at h ⊢
 rw [Array.getElem?_setIfInBounds_ne (fun e => hi e.symm)]
 exact h
theorem getD_put {a : Act} {dst : Option Nat} {x : Value} {t : Nat} (h : dst ≠ some t) : (a.put dst x).tmps.getD t undef = a.tmps.getD t undef := by
 cases dst with
 | none => rfl
 | some d =>
   have : d ≠ t := fun e => h (by rw [e])
   simp only [Act.put, Array.getD_eq_getD_getElem?]
   rw [Array.getElem?_setIfInBounds_ne this]
theorem getD_put_self {a : Act} {d : Nat} {x : Value} (h : d < a.tmps.size) : (a.put (some d) x).tmps.getD d undef = x := by
 simp [Act.put, Array.getD_eq_getD_getElem?, h]
theorem put_size (a : Act) (dst : Option Nat) (x : Value) : (a.put dst x).tmps.size = a.tmps.size := by cases dst <;> simp [Act.put]
end
section
variable {P : Program} {ops : Array Oper} {N : Nat} {K : Fr × St → Prop} {Q : Exit → Act → World → Prop}
structure After (S : Nat) (P : Program) (N : Nat) (K : Fr × St → Prop) (ds : List DOper) (listed : Array Bool) (E : Env) (st : St) (w : World) (a : Act) (a' : Act) (w' : World) : Prop where
 ex : ∃ pre suf fr' st' E', pre ++ suf = ds ∧ DInv S (ACall P) N K pre suf listed E' st' w' fr' a' ∧ Ext E st w E' st' w' ∧ a'.defers = a.defers
theorem floats_spec {d : DOper} (h : floats d = true) : ∃ g zero, d.o.op = .alloc g zero ∧ d.o.guard = none ∧ d.loud = true := by
 unfold floats at h
 split at h
 · rename_i g zero h1 h2
   exact ⟨g, zero, h1, h2, h⟩
 · cases h
theorem floats_reads {d : DOper} (h : floats d = true) : d.reads = [] := by
 obtain ⟨g, zero, h1, h2, _⟩ := floats_spec h
 unfold DOper.reads
 rw [h1, h2]
 rfl
theorem draw_step {S : Nat} {ds pre suf : List DOper} {listed : Array Bool} {E : Env} {st : St} {w : World} {fr : Fr} {a : Act} (hd : DrawOk P N ops ds) (hds : pre ++ suf = ds) (h : DInv S (ACall P) N K pre suf listed E st w fr a)
 (hS : S ≤ w.heap.size) (hhead : ∀ d r, suf = d :: r → d.loud = true ∧ Un listed d) (hls : listed.size = ops.size)
 (hcl : ∀ i o, listed.getD i false = true → ops[i]? = some o → ∀ e ∈ o.after, Region.binds .any e = true → listed.getD e.on false = true)
 {i : Nat} (hr : i ∈ Region.ready .any ops listed) : wpOp P ops Q i (After S P N K ds (listed.setIfInBounds i true) E st w a) a w := by
 obtain ⟨hun, o, ho, hdeps⟩ := mem_ready.1 hr
 have hlt : i < ops.size := (Array.getElem?_eq_some_iff.1 ho).1
 obtain ⟨d, hdm, rfl⟩ := hd.all i hlt
 obtain ⟨o', hone⟩ := hd.one d hdm
 have : o' = o := by have := hone.at_; rw [ho] at this; exact (Option.some.inj this).symm
 subst this
 have hanc : ∀ j, Anc ops d.ix j → listed.getD j false = true := fun j hj => anc_listed hcl hj (fun o1 h1 => by rw [ho] at h1; cases h1; exact hdeps)
 -- what it looks at is there
 have hdm' : d ∈ pre ∨ d ∈ suf := by rw [← hds] at hdm; exact List.mem_append.1 hdm
 have hpw := hd.pair
 rw [← hds] at hpw
 have hpps := List.pairwise_append.1 hpw
 have helisted : ∀ e ∈ ds, ¬ Un listed e → listed.getD e.ix false = true := by
  intro e he hnu
  obtain ⟨oe, hoe⟩ := hd.one e he
  have hlt2 := (Array.getElem?_eq_some_iff.1 hoe.at_).1
  rw [← hls] at hlt2
  simp only [Un, Array.getD_eq_getD_getElem?, Array.getElem?_eq_getElem hlt2] at hnu ⊢
  simpa using hnu
 -- who was made ahead of its turn waits for nobody that is still to come
 have hearly : ∀ e ∈ suf, ¬ Un listed e → ¬ Anc ops e.ix d.ix := by
  intro e he hnu hA
  have := anc_listed hcl hA (fun o1 ho1 => hcl _ o1 (helisted e (by rw [← hds]; exact List.mem_append_right _ he) hnu) ho1)
  rw [un_not hun] at this
  cases this
 have hreads : ∀ n ∈ d.reads, n ∉ offDsts listed pre suf := by
  intro n hn hm
  rcases List.mem_append.1 hm with hm | hm
  case inr =>
   obtain ⟨e, hes, hnu, hed⟩ := mem_elDsts.1 hm
   have he : e ∈ ds := by rw [← hds]; exact List.mem_append_right _ hes
   have hw : PairOk ops d e → False := fun hpr => by
    rcases hpr.w n hed with h1 | h1
    · exact h1.1 hn
    · exact hearly e hes hnu h1.2
   rcases hdm' with hp | hp
   · exact hw (hpps.2.2 d hp e hes)
   · cases suf with
     | nil => cases hp
     | cons L r =>
       have hL := hhead L r rfl
       rcases List.mem_cons.1 hes with rfl | her
       · exact hnu hL.2
       rcases List.mem_cons.1 hp with rfl | hp
       · exact hw ((List.pairwise_cons.1 hpps.2.1).1 e her)
       · rcases ((List.pairwise_cons.1 hpps.2.1).1 d hp).l hL.1 with hA | hF
         · have h1 := hanc _ hA
           rw [un_not hL.2] at h1; cases h1
         · rw [floats_reads hF] at hn
           cases hn
  obtain ⟨e, hep, heu, hed⟩ := mem_unDsts.1 hm
  have he : e ∈ ds := by rw [← hds]; exact List.mem_append_left _ hep
  by_cases hde : e = d
  · subst hde; exact hone.self n hed hn
  · rcases List.pairwise_iff_getElem.1 hd.pair with hpw
    obtain ⟨x, hx, hxe⟩ := List.getElem_of_mem he
    obtain ⟨y, hy, hyd⟩ := List.getElem_of_mem hdm
    rcases Nat.lt_trichotomy x y with hxy | hxy | hxy
    · have := hpw x y hx hy hxy
      rw [hxe, hyd] at this
      have h1 := hanc _ (this.r n hed hn)
      rw [un_not heu] at h1; cases h1
    · subst hxy; exact hde (hxe.symm.trans hyd)
    · have := hpw y x hy hx hxy
      rw [hxe, hyd] at this
      rcases this.w n hed with h1 | h1
      · exact h1.1 hn
      · rw [(h.virt e hep heu).1] at h1; cases h1.1
 have hf0 := h.frame
 have hsame : ∀ t ∈ d.reads, (fr.cutL (offDsts listed pre suf)).get t = fr.get t := fun t ht => by
  rw [Fr.get_cutL, if_neg (fun hm => hreads t ht (memNat_iff.1 hm))]
 have hgate : gateNow d.o.guard (fr.cutL (offDsts listed pre suf)) = gateNow d.o.guard fr := gateNow_congr fun t ht => hsame t (List.mem_append_left _ ht)
 have hstep : ∀ s, step d.o.op (fr.cutL (offDsts listed pre suf)) s = step d.o.op fr s := fun s => step_congr (fun t ht => hsame t (List.mem_append_right _ ht)) s
 have hdu : Un listed d := hun
 have hinj : ∀ e ∈ ds, e.ix = d.ix → e = d := by
  intro e he hix
  obtain ⟨x, hx, hxe⟩ := List.getElem_of_mem he
  obtain ⟨y, hy, hyd⟩ := List.getElem_of_mem hdm
  have hpw := List.pairwise_iff_getElem.1 (List.pairwise_map.1 hd.nodup)
  rcases Nat.lt_trichotomy x y with hxy | hxy | hxy
  · have := hpw x y hx hy hxy
    rw [hxe, hyd] at this
    exact absurd hix this
  · subst hxy
    exact hxe.symm.trans hyd
  · have := hpw y x hy hx hxy
    rw [hxe, hyd] at this
    exact absurd hix.symm this
 have hdlt : ∀ n, d.o.dst = some n → n < a.tmps.size := fun n hn => by rw [h.size]; exact hone.lt n (hone.dst ▸ hn)
 -- the slots behind it
 have hnun : ∀ e, ¬ Un listed e → ¬ Un (listed.setIfInBounds d.ix true) e := fun e he hu => he (un_set hu (by rw [hls]; exact hlt)).1
 have hrel : ∀ {E' : Env} {v : V} {x : Value} {fr' : Fr} {pp sf : List DOper}, (∀ e ∈ pre, e ∈ pp) → (∀ e ∈ suf, ¬ Un listed e → e ∈ sf) → E.Le E' → Rel E' v x → (∀ t, fr'.get t = if d.o.dst = some t then v else fr.get t) →
  ∀ t, (∀ e ∈ pp, Un (listed.setIfInBounds d.ix true) e → e.o.dst ≠ some t) → (∀ e ∈ sf, ¬ Un (listed.setIfInBounds d.ix true) e → e.o.dst ≠ some t) → Rel E' (fr'.get t) ((a.put o'.dst x).tmps.getD t undef) := by
  intro E' v x fr' pp sf hpp hsf hle hrx hget t ht ht2
  rw [hget, ← hone.dst]
  by_cases hdt : d.o.dst = some t
  · rw [if_pos hdt, hdt, getD_put_self (hdlt t hdt)]
    exact hrx
  · rw [if_neg hdt, getD_put hdt]
    refine (h.rel t (fun e he heu hee => ?_) fun e he heu => ht2 e (hsf e he heu) (hnun e heu)).mono hle
    have heds : e ∈ ds := by rw [← hds]; exact List.mem_append_left _ he
    by_cases hix : e.ix = d.ix
    · exact hdt (hinj e heds hix ▸ hee)
    · exact ht e (hpp e he) (un_set' heu hix) hee
 have hunset : ∀ e, Un (listed.setIfInBounds d.ix true) e → Un listed e ∧ e.ix ≠ d.ix := fun e he => un_set he (by rw [hls]; exact hlt)
 -- who was made ahead of its turn stays as it is
 have hkeep : ∀ {E' : Env} {st' : St} {w' : World} {x : Value} {sf : List DOper}, Ext E st w E' st' w' → (∀ e ∈ sf, e ∈ suf ∧ e.ix ≠ d.ix) → (∀ e ∈ suf, ¬ Un listed e → ∀ n, e.o.dst = some n → d.o.dst ≠ some n) →
  ∃ B : Nat → Nat, (∀ e ∈ sf, ¬ Un (listed.setIfInBounds d.ix true) e → EarlyAt S E' st' w' (a.put o'.dst x) e (B e.ix)) ∧ ∀ e ∈ sf, ∀ e' ∈ sf, ¬ Un (listed.setIfInBounds d.ix true) e → ¬ Un (listed.setIfInBounds d.ix true) e' → B e.ix = B e'.ix → e.ix = e'.ix := by
  intro E' st' w' x sf hx hsf hdst
  obtain ⟨B, hB1, hB2⟩ := h.early
  have hnu : ∀ e ∈ sf, ¬ Un (listed.setIfInBounds d.ix true) e → ¬ Un listed e := fun e he hu hu2 => hu (un_set' hu2 (hsf e he).2)
  refine ⟨B, fun e he hu => (hB1 e (hsf e he).1 (hnu e he hu)).step hx fun n hn => ?_, fun e he e' he' hu hu' => hB2 e (hsf e he).1 e' (hsf e' he').1 (hnu e he hu) (hnu e' he' hu')⟩
  rw [← hone.dst]
  exact getD_put (hdst e (hsf e he).1 (hnu e he hu) n hn)
 rcases hdm' with hp | hp
 · -- a quiet one, that the frame knows already
   obtain ⟨hl, hv⟩ := h.virt d hp hdu
   have build : ∀ {E' : Env} {w' : World} {v : V} {x : Value}, Sim E' st w' → Ext E st w E' st w' → Rel E' v x → (∀ n, d.o.dst = some n → fr.get n = v) → After S P N K ds (listed.setIfInBounds d.ix true) E st w a (a.put o'.dst x) w' := by
    intro E' w' v x s1 s2 hr hn
    refine ⟨pre, suf, fr, st, E', hds, ⟨s1, by rw [put_size]; exact h.size, ?_, ?_, ?_, h.run⟩, s2, put_defers _ _ _⟩
    · refine hrel (fun e he => he) (fun e he _ => he) s2.le hr fun t => ?_
      by_cases ht : d.o.dst = some t
      · rw [if_pos ht]; exact hn t ht
      · rw [if_neg ht]
    · refine hkeep s2 (fun e he => ⟨he, fun hix => ?_⟩) fun e he hnu n hen => ?_
      · have hnd := hd.nodup
        rw [← hds, List.map_append, List.nodup_append] at hnd
        exact hnd.2.2 _ (List.mem_map_of_mem hp) _ (List.mem_map_of_mem he) hix.symm
      · rcases (hpps.2.2 d hp e he).w n hen with h1 | h1
        · exact h1.2
        · exact absurd h1.2 (hearly e he hnu)
    · intro e he hu
      exact h.virt e he (hunset e hu).1
   unfold wpOp
   simp only [ho]
   rcases hv with ⟨h1, v, hy, hn⟩ | ⟨h1, hn⟩
   · rw [if_pos (gate_wanted hone.gd hf0 (hgate.trans h1))]
     refine .inl (step_ok hone.op h.sim hf0 (K := fun r => r = (v, st)) (by rw [hstep]; exact hy _ rfl) ?_)
     intro v' st' E' w' x hk s1 s2 hr
     cases hk
     exact build s1 s2 hr hn
   · rw [if_neg (by rw [gate_wanted hone.gd hf0 (hgate.trans h1)]; simp)]
     exact build h.sim (.refl _ _ _) undef_rel hn
 · -- the next loud one
   obtain ⟨L, r, hsuf⟩ : ∃ L r, suf = L :: r := by
    cases suf with
    | nil => cases hp
    | cons L r => exact ⟨L, r, rfl⟩
   subst hsuf
   have hL := (hhead L r rfl).1
   have hLu := (hhead L r rfl).2
   have hnd := hd.nodup
   rw [← hds, List.map_append, List.nodup_append] at hnd
   have hnds := hnd.2.1
   rw [List.map_cons, List.nodup_cons] at hnds
   by_cases hLd : L = d
   case neg =>
    -- a new object, made ahead of its turn
    have hp : d ∈ r := by
     rcases List.mem_cons.1 hp with hp | hp
     · exact absurd hp.symm hLd
     · exact hp
    have hF : floats d = true := by
     rcases ((List.pairwise_cons.1 hpps.2.1).1 d hp).l hL with hA | hF
     · have h1 := hanc _ hA
       rw [un_not hLu] at h1; cases h1
     · exact hF
    obtain ⟨g, zero, hop, hgd, _⟩ := floats_spec hF
    have hok := hone.op
    rw [hop] at hok
    obtain ⟨ty, hot, hz⟩ : ∃ ty, o'.op = .alloc ty ∧ zeroOk P ty zero = true := by
     simp only [okOp] at hok
     split at hok
     · exact ⟨_, by assumption, hok⟩
     · cases hok
    obtain ⟨ti, z, hi, hz0, hsz, hzr, hl, h1⟩ := zeroOk_spec hz
    have hgw : gateNow d.o.guard (fr.cutL (offDsts listed pre (L :: r))) = some true := by rw [hgd]; rfl
    unfold wpOp
    simp only [ho]
    rw [if_pos (gate_wanted hone.gd hf0 hgw)]
    refine .inl (wp_val (x := .pointer (some ⟨w.heap.size, 0, none⟩)) (by simp [execOp, hot, Instr.alloc, run_zeroValue hi hz0, newVar, newRow]) (w' := w.alloc (.cells z.cells ty)) ?_)
    obtain ⟨s1, s2⟩ := h.sim.spare (w' := w.alloc (.cells z.cells ty)) (ob := .cells z.cells ty) rfl ⟨rfl, rfl, rfl⟩
    obtain ⟨B, hB1, hB2⟩ := h.early
    have hBlt : ∀ e ∈ L :: r, ¬ Un listed e → B e.ix < w.heap.size := fun e he hu => by
     obtain ⟨_, _, cells, t, fz, _, _, h3, _⟩ := (hB1 e he hu).obj
     exact (Array.getElem?_eq_some_iff.1 h3).1
    have hback : ∀ e ∈ L :: r, ¬ Un (listed.setIfInBounds d.ix true) e → e.ix = d.ix ∨ ¬ Un listed e := fun e he hu => by
     by_cases hix : e.ix = d.ix
     · exact .inl hix
     · exact .inr fun hu2 => hu (un_set' hu2 hix)
    refine ⟨pre, L :: r, fr, st, E, hds, ⟨s1, by rw [put_size]; exact h.size, fun t ht ht2 => ?_, ⟨fun i => if i = d.ix then w.heap.size else B i, fun e he hu => ?_, fun e he e' he' hu hu' hee => ?_⟩, fun e he hu => h.virt e he (hunset e hu).1, h.run⟩, s2, put_defers _ _ _⟩
    · have hdt : d.o.dst ≠ some t := ht2 d (.tail _ hp) fun hu => (hunset d hu).2 rfl
      rw [← hone.dst, getD_put hdt]
      refine h.rel t (fun e he heu hee => ht e he (un_set' heu fun hix => ?_) hee) fun e he heu => ht2 e he (hnun e heu)
      exact hdt (hinj e (by rw [← hds]; exact List.mem_append_left _ he) hix ▸ hee)
    · by_cases hix : e.ix = d.ix
      · have hed := hinj e (by rw [← hds]; exact List.mem_append_right _ he) hix
        subst hed
        dsimp only
        rw [if_pos rfl]
        refine ⟨hS, fun n hn => ?_, ⟨g, zero, z.cells, ty, (0, 0), hop, hgd, (by show (w.heap.push _)[w.heap.size]? = _; simp),   .inl rfl, by omega, hzr, h1⟩, fun k hk => ?_, fun ob => ?_⟩
        · rw [← hone.dst, hn, getD_put_self (hdlt n hn)]
        · have := h.sim.lt hk
          omega
        · cases hI : E.I w.heap.size ob with
          | none => rfl
          | some x =>
            have := h.sim.imm _ _ _ hI
            simp [cellIn] at this
      · have hu2 := (hback e he hu).resolve_left hix
        dsimp only
        rw [if_neg hix]
        refine (hB1 e he hu2).step s2 fun n hn => ?_
        rw [← hone.dst]
        refine getD_put fun hdn => ?_
        have hne : e ≠ d := fun e2 => hix (by rw [e2])
        rcases List.mem_cons.1 he with rfl | her
        · exact hu2 hLu
        · have hpw2 := List.pairwise_iff_getElem.1 (List.pairwise_cons.1 hpps.2.1).2
          obtain ⟨x, hx, hxe⟩ := List.getElem_of_mem her
          obtain ⟨y, hy, hyd⟩ := List.getElem_of_mem hp
          rcases Nat.lt_trichotomy x y with hxy | hxy | hxy
          · have := hpw2 x y hx hy hxy
            rw [hxe, hyd] at this
            exact this.f hF n hdn hn
          · subst hxy
            exact hne (hxe.symm.trans hyd)
          · have := hpw2 y x hy hx hxy
            rw [hxe, hyd] at this
            rcases this.w n hn with h2 | h2
            · exact h2.2 hdn
            · exact hearly e (.tail _ her) hu2 h2.2
    · dsimp only at hee
      by_cases h1 : e.ix = d.ix
      · by_cases h2 : e'.ix = d.ix
        · rw [h1, h2]
        · rw [if_pos h1, if_neg h2] at hee
          have := hBlt e' he' ((hback e' he' hu').resolve_left h2)
          omega
      · by_cases h2 : e'.ix = d.ix
        · rw [if_neg h1, if_pos h2] at hee
          have := hBlt e he ((hback e he hu).resolve_left h1)
          omega
        · rw [if_neg h1, if_neg h2] at hee
          exact hB2 e he e' he' ((hback e he hu).resolve_left h1) ((hback e' he' hu').resolve_left h2) hee
   subst hLd
   have hpair : ∀ e ∈ pre, PairOk ops e L := fun e he => hpps.2.2 e he L (.head _)
   obtain ⟨done, hd1, hd2, hrun⟩ := h.run
   simp only [runD] at hrun
   obtain ⟨fr1, hfr1, hcase⟩ := gated_wp hrun
   have build : ∀ {E' : Env} {st' : St} {w' : World} {v : V} {x : Value}, Sim E' st' w' → Ext E st w E' st' w' → Rel E' v x → (∀ e ∈ pre, Un listed e → Virt (ACall P) e (fr1.next L.o.dst v []) st') →
    (runD (L :: done) r (fr1.next L.o.dst v []) st').wp (ACall P) K → After S P N K ds (listed.setIfInBounds L.ix true) E st w a (a.put o'.dst x) w' := by
    intro E' st' w' v x s1 s2 hr hv hw
    have happ : pre ++ [L] ++ r = ds := by rw [← hds]; simp
    have hget : ∀ t, (fr1.next L.o.dst v []).get t = if L.o.dst = some t then v else fr.get t := fun t => by rw [get_next, hfr1]
    refine ⟨pre ++ [L], r, fr1.next L.o.dst v [], st', E', happ, ⟨s1, by rw [put_size]; exact h.size, ?_, ?_, ?_, L :: done, ?_, ?_, hw⟩, s2, put_defers _ _ _⟩
    · refine hrel (fun e he => List.mem_append_left _ he) (fun e he hu => ?_) s2.le hr hget
      rcases List.mem_cons.1 he with rfl | he
      · exact absurd hLu hu
      · exact he
    · refine hkeep s2 (fun e he => ⟨.tail _ he, fun hix => hnds.1 (hix ▸ List.mem_map_of_mem he)⟩) fun e he hnu n hen => ?_
      rcases List.mem_cons.1 he with rfl | he
      · exact absurd hLu hnu
      · rcases ((List.pairwise_cons.1 hpps.2.1).1 e he).w n hen with h1 | h1
        · exact h1.2
        · exact absurd h1.2 (hearly e (.tail _ he) hnu)
    · intro e he hu
      obtain ⟨hu1, hu2⟩ := hunset e hu
      rw [List.mem_append, List.mem_singleton] at he
      rcases he with he | rfl
      · exact ⟨(h.virt e he hu1).1, hv e he hu1⟩
      · exact absurd rfl hu2
    · intro y hy
      rcases List.mem_cons.1 hy with rfl | hy
      · simp
      · simp [hd1 y hy]
    · intro y hy
      rw [List.mem_append, List.mem_singleton] at hy
      rcases hy with hy | rfl
      · exact .tail _ (hd2 y hy)
      · exact .head _
   -- what is known of the frame holds on behind it
   have keepF : ∀ (v : V) (e : DOper), e ∈ pre → Un listed e → ∀ t, t ∈ e.reads ∨ e.o.dst = some t → fr.get t = (fr1.next L.o.dst v []).get t := by
    intro v e he heu t ht
    rw [get_next, hfr1, if_neg]
    intro hLt
    rcases (hpair e he).w t hLt with this | this
    · rcases ht with ht | ht
      · exact this.1 ht
      · exact this.2 ht
    · have h1 := hanc _ this.2
      rw [un_not heu] at h1; cases h1
   unfold wpOp
   simp only [ho]
   rcases hcase with ⟨hg, hw⟩ | ⟨hg, hw⟩
   · rw [if_pos (gate_wanted hone.gd hf0 (hgate.trans hg))]
     rw [T.wp_bind] at hw
     have hs1 : step L.o.op fr1 st = step L.o.op fr st := step_congr (fun t _ => hfr1 t) st
     rw [hs1, ← hstep] at hw
     refine .inl (step_ok hone.op h.sim hf0 hw ?_)
     intro v st' E' w' x hk s1 s2 hr
     dsimp only at hk
     rw [Fr.after_eq] at hk
     have hquiet : ∀ p ∈ done, memNat p.ix L.re = true → quietOp p.o.op = true := fun p hp' hm => by
      have hpp := hd1 p hp'
      obtain ⟨op, hop⟩ := hd.one p (by rw [← hds]; exact List.mem_append_left _ hpp)
      exact hop.quiet ((hpair p hpp).q hm).2
     obtain ⟨hk1, hk2⟩ := recheck_wp hquiet hk
     refine build s1 s2 hr (fun e he hu => ?_) hk1
     obtain ⟨hl, hv⟩ := h.virt e he hu
     have hv' := hv.congr (keepF v e he hu)
     rcases (hpair e he).s hL hl with hA | hA | hA
     · have h1 := hanc _ hA
       rw [un_not hu] at h1; cases h1
     · exact hv'.pure hA st'
     · rcases hv' with ⟨g1, _⟩ | g
       · exact .inl ⟨g1, hk2 e (hd2 e he) hA g1⟩
       · exact .inr g
   · rw [if_neg (by rw [gate_wanted hone.gd hf0 (hgate.trans hg)]; simp)]
     rw [Fr.after_eq] at hw
     exact build h.sim (.refl _ _ _) undef_rel (fun e he hu => (h.virt e he hu).2.congr (keepF _ e he hu)) hw
end
section
variable {P : Program} {ops : Array Oper} {N : Nat} {K : Fr × St → Prop} {Q : Exit → Act → World → Prop}
def unCount (listed : Array Bool) : List DOper → Nat
 | [] => 0
 | d :: r => (match listed.getD d.ix true with | false => 1 | true => 0) + unCount listed r
theorem unCount_zero {listed : Array Bool} : ∀ {l : List DOper}, unCount listed l = 0 → ∀ d ∈ l, ¬ Un listed d
 | [], _, d, hd => by cases hd
 | e :: r, h, d, hd => by
   simp only [unCount] at h
   have h1 : (match listed.getD e.ix true with | false => 1 | true => 0) = 0 := by omega
   rcases List.mem_cons.1 hd with rfl | hd
   · intro hu
     simp only [Un] at hu
     rw [hu] at h1; simp at h1
   · exact unCount_zero (by omega) d hd
end
section
variable {P : Program} {ops : Array Oper} {N : Nat} {K : Fr × St → Prop} {Q : Exit → Act → World → Prop}
theorem unCount_other {listed : Array Bool} {i : Nat} : ∀ {l : List DOper}, (∀ d ∈ l, d.ix ≠ i) → unCount (listed.setIfInBounds i true) l = unCount listed l
 | [], _ => rfl
 | d :: r, h => by
   have hd : (listed.setIfInBounds i true).getD d.ix true = listed.getD d.ix true := by
    simp only [Array.getD_eq_getD_getElem?]
    rw [Array.getElem?_setIfInBounds_ne (fun e => h d (.head _) e.symm)]
   simp only [unCount, hd, unCount_other (fun e he => h e (.tail _ he))]
theorem unCount_set {listed : Array Bool} {d : DOper} (hlt : d.ix < listed.size) (hu : Un listed d) : ∀ {l : List DOper}, (l.map (·.ix)).Nodup → d ∈ l → unCount (listed.setIfInBounds d.ix true) l + 1 = unCount listed l
 | [], _, h => by cases h
 | e :: r, hn, h => by
   rw [List.map_cons, List.nodup_cons] at hn
   rcases List.mem_cons.1 h with rfl | h
   · have hs : (listed.setIfInBounds d.ix true).getD d.ix true = true := by simp [Array.getD_eq_getD_getElem?, hlt]
     have ho : unCount (listed.setIfInBounds d.ix true) r = unCount listed r := unCount_other fun e he hix => hn.1 (hix ▸ List.mem_map_of_mem he)
     simp only [Un] at hu
     simp only [unCount, hs, hu, ho]
     omega
   · have hne : e.ix ≠ d.ix := fun hix => hn.1 (hix ▸ List.mem_map_of_mem h)
     have he : (listed.setIfInBounds d.ix true).getD e.ix true = listed.getD e.ix true := by
      simp only [Array.getD_eq_getD_getElem?]
      rw [Array.getElem?_setIfInBounds_ne (fun q => hne q.symm)]
     have ih := unCount_set hlt hu hn.2 h
     simp only [unCount, he]
     omega
theorem first_ready {ds : List DOper} (hd : DrawOk P N ops ds) {listed : Array Bool} (hls : listed.size = ops.size) (hr : Region.ready .any ops listed = []) : ∀ (pre suf : List DOper), ds = pre ++ suf → (∀ d ∈ pre, ¬ Un listed d) → ∀ d ∈ ds, ¬ Un listed d
 | pre, [], h, hp => fun d hdm => hp d (by rw [h] at hdm; simpa using hdm)
 | pre, d :: suf, h, hp => by
   refine first_ready hd hls hr (pre ++ [d]) suf (by rw [h]; simp) fun e he => ?_
   rw [List.mem_append, List.mem_singleton] at he
   rcases he with he | rfl
   · exact hp e he
   · intro hu
     obtain ⟨o, ho⟩ := hd.one e (by rw [h]; simp)
     have : e.ix ∈ Region.ready .any ops listed := mem_ready.2 ⟨hu, o, ho.at_, fun ed hed hb => by
      obtain ⟨p, hpm, hpi⟩ := hd.edges pre e suf h o ho.at_ ed hed hb
      have := hp p hpm
      rw [← hpi]
      simp only [Un, Array.getD_eq_getD_getElem?] at this ⊢
      cases hq : listed[p.ix]? with
      | none =>
        obtain ⟨op, hop⟩ := hd.one p (by rw [h]; exact List.mem_append_left _ hpm)
        have h1 := (Array.getElem?_eq_some_iff.1 hop.at_).1
        have h2 := Array.getElem?_eq_none_iff.1 hq
        omega
      | some b => rw [hq] at this; simp at this ⊢; exact this⟩
     rw [hr] at this; cases this
end
section
variable {P : Program} {ops : Array Oper} {N : Nat} {K : Fr × St → Prop} {Q : Exit → Act → World → Prop}
theorem draw_any {ds : List DOper} (hd : DrawOk P N ops ds) {E0 : Env} {st0 : St} {w0 : World} {a0 : Act}
 (hQ : ∀ fr st E a w, K (fr, st) → Sim E st w → Ext E0 st0 w0 E st w → FrRel E N fr a → a.defers = a0.defers → Q .normal a w) :
 ∀ (fuel : Nat) {pre suf : List DOper} {listed : Array Bool} {E : Env} {st : St} {w : World} {fr : Fr} {a : Act}, pre ++ suf = ds → DInv w0.heap.size (ACall P) N K pre suf listed E st w fr a → Ext E0 st0 w0 E st w → a.defers = a0.defers → listed.size = ops.size →
  (∀ i o, listed.getD i false = true → ops[i]? = some o → ∀ e ∈ o.after, Region.binds .any e = true → listed.getD e.on false = true) → unCount listed ds ≤ fuel → wpAny P .any ops Q fuel listed a w := by
 have fin : ∀ {pre suf : List DOper} {listed : Array Bool} {E : Env} {st : St} {w : World} {fr : Fr} {a : Act}, pre ++ suf = ds → DInv w0.heap.size (ACall P) N K pre suf listed E st w fr a → Ext E0 st0 w0 E st w → a.defers = a0.defers → listed.size = ops.size → (∀ d r, suf = d :: r → d.loud = true ∧ Un listed d) →
  Region.ready .any ops listed = [] → Q .normal a w := by
  intro pre suf listed E st w fr a hds h he hdf hls hhead hr
  have hall := first_ready hd hls hr [] ds rfl (fun d hd => by cases hd)
  have hsuf : suf = [] := by
   cases suf with
   | nil => rfl
   | cons d r => exact absurd (hhead d r rfl).2 (hall d (by rw [← hds]; simp))
  subst hsuf
  obtain ⟨done, _, _, hrun⟩ := h.run
  refine hQ fr st E a w hrun h.sim he ⟨h.size, fun t => h.rel t (fun d hdm hu => ?_) fun d hdm => by cases hdm⟩ hdf
  exact absurd hu (hall d (by rw [← hds]; exact List.mem_append_left _ hdm))
 intro fuel
 induction fuel with
 | zero =>
   intro pre suf listed E st w fr a hds h he hdf hls hcl hc
   have hnone := unCount_zero (listed := listed) (l := ds) (by omega)
   have hr : Region.ready .any ops listed = [] := by
    rw [List.eq_nil_iff_forall_not_mem]
    intro i hi
    obtain ⟨hun, o, ho, _⟩ := mem_ready.1 hi
    obtain ⟨d, hdm, rfl⟩ := hd.all i (Array.getElem?_eq_some_iff.1 ho).1
    exact hnone d hdm hun
   obtain ⟨pre', suf', fr', E', st', hds', h', he', hhead⟩ := h.normal (ops := ops) hls hcl he (by rw [hds]; exact hd.pair) (by rw [hds]; exact hd.nodup) (by rw [hds]; exact hd.one)
   exact ⟨hr, fin (hds'.trans hds) h' he' hdf hls hhead hr⟩
 | succ fuel ih =>
   intro pre suf listed E st w fr a hds h he hdf hls hcl hc
   obtain ⟨pre', suf', fr', E', st', hds', h', he', hhead⟩ := h.normal (ops := ops) hls hcl he (by rw [hds]; exact hd.pair) (by rw [hds]; exact hd.nodup) (by rw [hds]; exact hd.one)
   rw [hds] at hds'
   refine ⟨fun hr => fin hds' h' he' hdf hls hhead hr, fun i hi => ?_⟩
   refine wpOp_mono ?_ (draw_step hd hds' h' he'.size hhead hls hcl hi)
   rintro a1 w1 ⟨p1, s1, f1, st1, E1, hds1, hi1, hext1, hdf1⟩
   obtain ⟨hun, o, ho, hdeps⟩ := mem_ready.1 hi
   have hilt := (Array.getElem?_eq_some_iff.1 ho).1
   obtain ⟨d, hdm, rfl⟩ := hd.all i hilt
   refine ih hds1 hi1 (he'.trans hext1) (hdf1.trans hdf) (by simpa using hls) ?_ ?_
   · intro j o' hj ho' e hee hb
     have key : listed.getD e.on false = true := by
      by_cases hji : j = d.ix
      · subst hji
        rw [ho] at ho'; cases ho'
        exact hdeps e hee hb
      · refine hcl j o' ?_ ho' e hee hb
        simp only [Array.getD_eq_getD_getElem?] at hj ⊢
        rw [Array.getElem?_setIfInBounds_ne (fun q => hji q.symm)] at hj
        exact hj
     exact getD_set_true key
   · have := unCount_set (listed := listed) (d := d) (by omega) hun hd.nodup hdm
     omega
end
section
variable {P : Program} {ops : Array Oper} {N : Nat} {K : Fr × St → Prop} {Q : Exit → Act → World → Prop}
theorem okPairs_spec {anc : List (Nat × Nat)} (ht : TabOk ops anc) : ∀ {ds : List DOper}, okPairs anc ds = true → ds.Pairwise (PairOk ops)
 | [], _ => .nil
 | d :: r, h => by
   simp only [okPairs, Bool.and_eq_true, List.all_eq_true] at h
   exact .cons (fun e he => okPair_spec ht (h.1 e he)) (okPairs_spec ht h.2)
theorem okEdges_spec : ∀ {ds : List DOper} {seen : List Nat}, okEdges ops seen ds = true →
 (∀ pre d suf, ds = pre ++ d :: suf → ∀ o, ops[d.ix]? = some o → ∀ e ∈ o.after, Region.binds .any e = true → e.on ∈ seen ∨ ∃ p ∈ pre, p.ix = e.on) ∧ (ds.map (·.ix)).Nodup ∧ ∀ d ∈ ds, d.ix ∉ seen
 | [], seen, _ => ⟨fun pre d suf h => by simp at h, by simp, fun d hd => by cases hd⟩
 | q :: r, seen, h => by
   simp only [okEdges, Bool.and_eq_true, Bool.not_eq_true'] at h
   obtain ⟨⟨h1, h2⟩, h3⟩ := h
   obtain ⟨i1, i2, i3⟩ := okEdges_spec h3
   have hq : q.ix ∉ seen := fun hm => by rw [memNat_iff.2 hm] at h2; cases h2
   refine ⟨fun pre d suf hds o ho e he hb => ?_, ?_, ?_⟩
   · cases pre with
     | nil =>
       simp only [List.nil_append, List.cons.injEq] at hds
       obtain ⟨rfl, rfl⟩ := hds
       rw [ho] at h1
       simp only [List.all_eq_true] at h1
       left
       refine memNat_iff.1 (h1 e.on ?_)
       simp only [edgesOf, List.mem_map, List.mem_filter]
       exact ⟨e, ⟨by simpa using he, hb⟩, rfl⟩
     | cons p pre =>
       simp only [List.cons_append, List.cons.injEq] at hds
       obtain ⟨rfl, rfl⟩ := hds
       rcases i1 pre d suf rfl o ho e he hb with hm | ⟨p, hp, hpi⟩
       · rcases List.mem_cons.1 hm with hm | hm
         · exact .inr ⟨q, .head _, hm.symm⟩
         · exact .inl hm
       · exact .inr ⟨p, .tail _ hp, hpi⟩
   · rw [List.map_cons, List.nodup_cons]
     refine ⟨fun hm => ?_, i2⟩
     obtain ⟨d, hd, hdi⟩ := List.mem_map.1 hm
     exact i3 d hd (by rw [hdi]; exact .head _)
   · intro d hd
     rcases List.mem_cons.1 hd with rfl | hd
     · exact hq
     · exact fun hm => i3 d hd (.tail _ hm)
end
end Go.Eng
/-
Regions whose order is drawn: the check comes to what the law asks, and the law of the whole region.
-/
namespace Go.Eng
open Go
section
variable {P : Program} {ops : Array Oper} {N : Nat} {K : Fr × St → Prop} {Q : Exit → Act → World → Prop}
theorem okOne_spec {d : DOper} (h : okOne P N ops d = true) : ∃ o, OneOk P N ops d o := by
 unfold okOne at h
 split at h
 case h_2 => cases h
 rename_i o ho
 simp only [Bool.and_eq_true, decide_eq_true_eq, Bool.or_eq_true] at h
 obtain ⟨⟨⟨⟨⟨h1, h2⟩, h3⟩, h4⟩, h5⟩, h6⟩ := h
 refine ⟨o, ho, h1, h2, fun n hn => ?_, h4, fun hl => ?_, fun n hn hm => ?_⟩
 · rw [hn] at h3; simpa [dstOk] using h3
 · rcases h5 with h5 | h5
   · rw [hl] at h5; cases h5
   · exact h5
 · rw [hn] at h6
   simp only [Bool.not_eq_true'] at h6
   rw [memNat_iff.2 hm] at h6; cases h6
theorem len_of_nodup : ∀ (n : Nat) {l : List Nat}, l.Nodup → (∀ i ∈ l, i < n) → l.length ≤ n
 | 0, l, _, hb => by
   cases l with
   | nil => simp
   | cons x r => have := hb x (.head _); omega
 | n + 1, l, hn, hb => by
   by_cases hm : n ∈ l
   · have hlen := List.length_erase_of_mem hm
     have := len_of_nodup n (l := l.erase n) (hn.erase n) (fun j hj => by
      have h1 := (hn.mem_erase_iff.1 hj)
      have h2 := hb j h1.2
      omega)
     omega
   · have := len_of_nodup n (l := l) hn (fun j hj => by
      have h1 := hb j hj
      have h2 : j ≠ n := fun e => hm (e ▸ hj)
      omega)
     omega
theorem full_of_nodup : ∀ (n : Nat) {l : List Nat}, l.Nodup → (∀ i ∈ l, i < n) → l.length = n → ∀ i, i < n → i ∈ l
 | 0, l, _, _, _, i, hi => by omega
 | n + 1, l, hn, hb, hl, i, hi => by
   have hmem : n ∈ l := by
    refine Classical.byContradiction fun hno => ?_
    have : l.length ≤ n := by
     refine len_of_nodup n hn fun j hj => ?_
     have h1 := hb j hj
     have h2 : j ≠ n := fun e => hno (e ▸ hj)
     omega
    omega
   by_cases hin : i = n
   · subst hin; exact hmem
   have hlen := List.length_erase_of_mem hmem
   have := full_of_nodup n (l := l.erase n) (hn.erase n) (fun j hj => by
    have h1 := (hn.mem_erase_iff.1 hj)
    have h2 := hb j h1.2
    omega) (by omega) i (by omega)
   exact List.mem_of_mem_erase this
theorem okDraw_spec {ds : List DOper} (h : okDraw P N ops ds = true) : DrawOk P N ops ds := by
 unfold okDraw at h
 simp only [Bool.and_eq_true, decide_eq_true_eq, List.all_eq_true] at h
 obtain ⟨⟨⟨⟨h1, h2⟩, h3⟩, h4⟩, h5⟩ := h
 obtain ⟨e1, e2, _⟩ := okEdges_spec h5
 refine ⟨h1, fun d hd => okOne_spec (h3 d hd), okPairs_spec (allAncs_ok ops _) h4, fun pre d suf hds o ho e he hb => ?_, e2, fun i hi => ?_⟩
 · rcases e1 pre d suf hds o ho e he hb with hm | h
   · cases hm
   · exact h
 · have := full_of_nodup ops.size (l := ds.map (·.ix)) e2 (fun j hj => by
    obtain ⟨d, hd, rfl⟩ := List.mem_map.1 hj
    obtain ⟨o, ho⟩ := okOne_spec (h3 d hd)
    exact (Array.getElem?_eq_some_iff.1 ho.at_).1) (by simpa using h2) i hi
   obtain ⟨d, hd, hdi⟩ := List.mem_map.1 this
   exact ⟨d, hd, hdi⟩
theorem unCount_le (listed : Array Bool) : ∀ l : List DOper, unCount listed l ≤ l.length
 | [] => Nat.le_refl _
 | d :: r => by
   have := unCount_le listed r
   simp only [unCount, List.length_cons]
   split <;> omega
theorem draw_ok {ds : List DOper} (hk : okDraw P N ops ds = true) {id : Nat} {E : Env} {st : St} {w : World} {fr : Fr} {a : Act} (hs : Sim E st w) (hf : FrRel E N fr a)
 (hw : (runD [] ds fr st).wp (ACall P) K)
 (hQ : ∀ fr' st' E' a' w', K (fr', st') → Sim E' st' w' → Ext E st w E' st' w' → FrRel E' N fr' a' → a'.defers = a.defers → Q .normal a' w') :
 (Code.region id ops true).wp P Q a w := by
 have hd := okDraw_spec hk
 refine wp_region_any hd.md ?_
 have hlen : ds.length = ops.size := by
  unfold okDraw at hk
  simp only [Bool.and_eq_true, decide_eq_true_eq] at hk
  exact hk.1.1.1.2
 have hun : ∀ d ∈ ds, Un (Array.replicate ops.size false) d := fun d hdm => by
  obtain ⟨o, ho⟩ := hd.one d hdm
  have hlt := (Array.getElem?_eq_some_iff.1 ho.at_).1
  simp [Un, Array.getD_eq_getD_getElem?, hlt]
 have hsize : (Array.replicate ops.size false).size = ops.size := by simp
 refine draw_any (K := K) hd (E0 := E) (st0 := st) (w0 := w) (a0 := a) (fun fr' st' E' a' w' h1 h2 h3 h4 h5 => hQ fr' st' E' a' w' h1 h2 h3 h4 h5)
  ops.size (pre := []) (suf := ds) (E := E) (st := st) (fr := fr) (by simp) ?_ (Ext.drawn (w.drawn + 1)) rfl hsize ?_ ?_
 · refine ⟨hs.of_heap (w := w) (w' := { w with drawn := w.drawn + 1 }) rfl, hf.size, fun t _ _ => hf.rel t, ⟨fun _ => 0, fun d hd hu => absurd (hun d hd) hu, fun d hd _ _ hu => absurd (hun d hd) hu⟩, fun d hd => (by cases hd), [], fun x h => h, fun x h => h, hw⟩
 · intro i o hi ho
   have hlt := (Array.getElem?_eq_some_iff.1 ho).1
   simp [Array.getD_eq_getD_getElem?, hlt] at hi
 · rw [← hlen]; exact unCount_le _ _
end
end Go.Eng
/-
Code and functions: what the abstract run promises.
-/
namespace Go.Eng
open Go
def seqK (K : Fr → St → Prop) (Q : Ex → Fr → St → Prop) : Ex → Fr → St → Prop
 | .normal, fr, st => K fr st
 | .exit id, fr, st => Q (.exit id) fr st
 | .ret, fr, st => Q .ret fr st
def blkK (id : Nat) (Q : Ex → Fr → St → Prop) : Ex → Fr → St → Prop
 | .exit id', fr, st => if id' = id then Q .normal fr st else Q (.exit id') fr st
 | .normal, fr, st => Q .normal fr st
 | .ret, fr, st => Q .ret fr st
def regK (Q : Ex → Fr → St → Prop) : Fr × St → Prop
 | (fr, st) => Q .normal fr st
def cutT (kill : List Nat) : Fr × St → T (Fr × St)
 | (fr, st) => fr.cut kill fun fr => .ret (fr, st)
def Fr.le (f g : Fr) : Prop := ∀ t, f.get t = g.get t ∨ f.get t = .junk
theorem Fr.le_refl (f : Fr) : Fr.le f f := fun _ => .inl rfl
theorem Fr.le_nil {g : Fr} : Fr.le [] g := fun _ => .inr rfl
theorem Fr.le_cons {n : Nat} {v : V} {r g : Fr} (h : g.get n = v) (hr : Fr.le r g) : Fr.le ((n, v) :: r) g := by
 intro t
 simp only [Fr.get]
 split
 · rename_i hn; subst hn; exact .inl h.symm
 · exact hr t
theorem FrRel.le {E : Env} {N : Nat} {f g : Fr} {a : Act} (h : FrRel E N g a) (hl : Fr.le f g) : FrRel E N f a := by
 refine ⟨h.size, fun t => ?_⟩
 rcases hl t with h1 | h1
 · rw [h1]; exact h.rel t
 · rw [h1]; exact .junk _
def wpC (A : CallP) : AC → (Ex → Fr → St → Prop) → Fr → St → Prop
 | .skip, Q, fr, st => Q .normal fr st
 | .reg ops, Q, fr, st => (runOps ops fr st).wp A (regK Q)
 | .dreg ds kill, Q, fr, st => ((runD [] ds fr st).bind (cutT kill)).wp A (regK Q)
 | .seq a b, Q, fr, st => wpC A a (seqK (wpC A b Q) Q) fr st
 | .cond c a b, Q, fr, st => match c.ev fr with
   | .b x => wIf x (wpC A a Q fr st) (wpC A b Q fr st)
   | _ => False
 | .blk id b, Q, fr, st => wpC A b (blkK id Q) fr st
 | .loop b, Q, fr, st => ∀ R : Fr → St → Prop, (∀ fr fr' st, Fr.le fr' fr → wpC A b (seqK R Q) fr' st → R fr st) → R fr st
 | .exit id, Q, fr, st => Q (.exit id) fr st
 | .ret, Q, fr, st => Q .ret fr st
 | .no, _, _, _ => False
def okC (P : Program) (N : Nat) : Code → AC → Bool
 | .skip, .skip => true
 | .label _, .skip => true
 | .region _ ops draw, .reg as => !draw && okReg P N ops ops.toList as
 | .region _ ops draw, .dreg ds _ => draw && okDraw P N ops ds
 | .seq a b, .seq A B => okC P N a A && okC P N b B
 | .cond c a b, .cond d A B => okX c d && okC P N a A && okC P N b B
 | .block id b, .blk id' B => decide (id = id') && okC P N b B
 | .loop b, .loop B => okC P N b B
 | .exit id, .exit id' => decide (id = id')
 | .ret, .ret => true
 | _, .no => true
 | _, _ => false
section
variable {P : Program} {N : Nat} {E0 : Env} {st0 : St} {w0 : World}
structure Held (N : Nat) (E0 : Env) (st0 : St) (w0 : World) (K : Fr → St → Prop) (a : Act) (w : World) : Prop where
 ex : ∃ fr st E, K fr st ∧ Sim E st w ∧ Ext E0 st0 w0 E st w ∧ FrRel E N fr a ∧ a.defers = []
def Post (N : Nat) (E0 : Env) (st0 : St) (w0 : World) (Q : Ex → Fr → St → Prop) : Exit → Act → World → Prop
 | .normal, a, w => Held N E0 st0 w0 (Q .normal) a w
 | .exit id, a, w => Held N E0 st0 w0 (Q (.exit id)) a w
 | .ret, a, w => Held N E0 st0 w0 (Q .ret) a w
 | _, _, _ => False
def InLoop (P : Program) (c : Code) (Qm : Exit → Act → World → Prop) (a : Act) (w : World) : Prop :=
 ∀ (b : Frame) (k : List Item) (cs : List Frame), ∃ e a' w', Qm e a' w' ∧ Arrives P (lone (b.at a (.code c :: .inLoop c :: k)) cs w) b k cs e a' w'
theorem InLoop.loop {c : Code} {Qm : Exit → Act → World → Prop} {a : Act} {w : World} (h : InLoop P c Qm a w) : (Code.loop c).wp P Qm a w :=
 fun b k cs => let ⟨e, a', w', hq, harr⟩ := h b k cs; ⟨e, a', w', hq, .of_steps (.one step_loop) harr⟩
theorem InLoop.round {c : Code} {Q : Ex → Fr → St → Prop} {R : Fr → St → Prop} {a : Act} {w : World} (h : c.wp P (Post N E0 st0 w0 (seqK R Q)) a w)
 (hR : ∀ a w, Held N E0 st0 w0 R a w → InLoop P c (Post N E0 st0 w0 Q) a w) : InLoop P c (Post N E0 st0 w0 Q) a w := by
 intro b k cs
 obtain ⟨e, a₁, w₁, hq, harr⟩ := h b (.inLoop c :: k) cs
 cases e with
 | normal =>
   obtain ⟨e₂, a₂, w₂, hq₂, harr₂⟩ := hR a₁ w₁ hq b k cs
   exact ⟨e₂, a₂, w₂, hq₂, .of_steps (Steps.trans harr (.one step_inLoop)) harr₂⟩
 | exit id => exact ⟨.exit id, a₁, w₁, hq, .pass (x := .inLoop c) rfl (fun _ _ => .inl (by simp)) harr⟩
 | ret => exact ⟨.ret, a₁, w₁, hq, .pass (x := .inLoop c) rfl (fun _ _ => .inl (by simp)) harr⟩
 | goto l => exact hq.elim
 | panic ch => exact hq.elim
 | outgrown => exact hq.elim
theorem code_ok : ∀ (A : AC) (c : Code), okC P N c A = true → ∀ (Q : Ex → Fr → St → Prop) {fr : Fr} {st : St} {E : Env} {w : World} {a : Act},
 Sim E st w → Ext E0 st0 w0 E st w → FrRel E N fr a → a.defers = [] → wpC (ACall P) A Q fr st → c.wp P (Post N E0 st0 w0 Q) a w
 | .skip, c, hk, Q, fr, st, E, w, a, hs, he, hf, hd, hw => by
   cases c <;> simp [okC] at hk
   · exact wp_skip ⟨fr, st, E, hw, hs, he, hf, hd⟩
   · exact wp_label ⟨fr, st, E, hw, hs, he, hf, hd⟩
 | .reg as, c, hk, Q, fr, st, E, w, a, hs, he, hf, hd, hw => by
   cases c <;> simp [okC] at hk
   rename_i id ops draw
   obtain ⟨rfl, hk⟩ := hk
   refine wp_region ?_
   have := ops_ok (K := regK Q) (Q := Post N E0 st0 w0 Q) as ops.toList 0 hk (fun k o h => by simpa using h) hs hf hw (fun fr' st' E' a' w' h1 h2 h3 h4 h5 => ⟨fr', st', E', h1, h2, he.trans h3, h4, h5.trans hd⟩)
   rw [List.range_eq_range']
   simpa using this
 | .dreg ds kill, c, hk, Q, fr, st, E, w, a, hs, he, hf, hd, hw => by
   cases c <;> simp [okC] at hk
   rename_i id ops draw
   obtain ⟨rfl, hk⟩ := hk
   simp only [wpC] at hw
   rw [T.wp_bind] at hw
   refine draw_ok hk hs hf hw fun fr' st' E' a' w' h1 h2 h3 h4 h5 => ?_
   simp only [cutT] at h1
   rw [Fr.cut_eq] at h1
   refine ⟨fr'.cutL kill, st', E', h1, h2, he.trans h3, ⟨h4.size, fun t => ?_⟩, h5.trans hd⟩
   rw [Fr.get_cutL]
   split
   · exact .junk _
   · exact h4.rel t
 | .seq A B, c, hk, Q, fr, st, E, w, a, hs, he, hf, hd, hw => by
   cases c <;> simp [okC] at hk
   rename_i x y
   refine wp_seq ?_
   refine wp_mono (code_ok A x hk.1 _ hs he hf hd hw) ?_
   intro e a' w' h
   cases e with
   | normal =>
     obtain ⟨fr', st', E', h1, h2, h3, h4, h5⟩ := h
     exact code_ok B y hk.2 Q h2 h3 h4 h5 h1
   | exit id => exact h
   | ret => exact h
   | goto l => exact h
   | panic ch => exact h
   | outgrown => exact h
 | .cond d A B, c, hk, Q, fr, st, E, w, a, hs, he, hf, hd, hw => by
   cases c <;> simp [okC] at hk
   rename_i x y z
   have r1 := okX_rel hk.1.1 hf
   simp only [wpC] at hw
   split at hw
   · rename_i b hb
     rw [hb] at r1
     exact wp_cond_split r1.bool (fun hb => code_ok A y hk.1.2 Q hs he hf hd (hw.1 hb)) (fun hb => code_ok B z hk.2 Q hs he hf hd (hw.2 hb))
   · exact hw.elim
 | .blk id B, c, hk, Q, fr, st, E, w, a, hs, he, hf, hd, hw => by
   cases c <;> simp [okC] at hk
   rename_i id' x
   obtain ⟨rfl, hk⟩ := hk
   refine wp_block (wp_mono (code_ok B x hk _ hs he hf hd hw) ?_)
   intro e a' w' h
   cases e with
   | normal => exact h
   | exit id =>
     obtain ⟨fr', st', E', h1, h2⟩ := h
     simp only [blkK] at h1
     simp only [Exit.inBlock]
     split
     · rename_i hid; rw [if_pos hid] at h1; exact ⟨fr', st', E', h1, h2⟩
     · rename_i hid; rw [if_neg hid] at h1; exact ⟨fr', st', E', h1, h2⟩
   | ret => exact h
   | goto l => exact h
   | panic ch => exact h
   | outgrown => exact h
 | .loop B, c, hk, Q, fr, st, E, w, a, hs, he, hf, hd, hw => by
   cases c <;> simp [okC] at hk
   rename_i x
   have key := hw (fun fr st => ∀ (E : Env) (w : World) (a : Act), Sim E st w → Ext E0 st0 w0 E st w → FrRel E N fr a → a.defers = [] → InLoop P x (Post N E0 st0 w0 Q) a w) (by
    intro fr' fr0 st' hle h' E' w' a' s1 s2 s3 s4
    refine InLoop.round (code_ok B x hk _ s1 s2 (s3.le hle) s4 h') ?_
    rintro a2 w2 ⟨fr2, st2, E2, h1, h2, h3, h4, h5⟩
    exact h1 E2 w2 a2 h2 h3 h4 h5)
   exact (key E w a hs he hf hd).loop
 | .exit id, c, hk, Q, fr, st, E, w, a, hs, he, hf, hd, hw => by
   cases c <;> simp [okC] at hk
   subst hk
   exact wp_exit ⟨fr, st, E, hw, hs, he, hf, hd⟩
 | .ret, c, hk, Q, fr, st, E, w, a, hs, he, hf, hd, hw => by
   cases c <;> simp [okC] at hk
   exact wp_ret ⟨fr, st, E, hw, hs, he, hf, hd⟩
 | .no, c, hk, Q, fr, st, E, w, a, hs, he, hf, hd, hw => hw.elim
end
/-! Functions. -/
def okRes (P : Program) : List ResultVar → List RV → Bool
 | [], [] => true
 | .tmp t :: r, .t n :: q => decide (t = n) && okRes P r q
 | .cell x t :: r, .cell n sz :: q => decide (x = n) && szOk P t sz && okRes P r q
 | _, _ => false
def okFn (P : Program) (f : Nat) (F : AFn) : Bool :=
 match P.funcs[f]? with
 | some fn => match fn.body with
   | some c => bodyOk P f && okC P fn.ntmps c F.body && okRes P fn.results.toList F.results && decide (F.nparams ≤ fn.ntmps)
   | none => false
 | none => false
def retK (rs : List RV) (K : V → Heap → Prop) : Ex → Fr → St → Prop
 | .exit _, _, _ => False
 | .normal, fr, st => match resOf fr st rs with
   | some v => K v st.g
   | none => False
 | .ret, fr, st => match resOf fr st rs with
   | some v => K v st.g
   | none => False
section
variable {P : Program}
theorem paramFrame_get : ∀ (args : List V) (n t : Nat), (paramFrame n args).get t = if n ≤ t then args.getD (t - n) .junk else .junk
 | [], n, t => by simp [paramFrame, Fr.get]
 | v :: r, n, t => by
   simp only [paramFrame, Fr.get]
   by_cases h : n = t
   · subst h; simp
   · rw [if_neg h, paramFrame_get r (n + 1) t]
     by_cases h1 : n ≤ t
     · rw [if_pos h1, if_pos (by omega), show t - n = (t - (n + 1)) + 1 by omega]
       simp
     · rw [if_neg h1, if_neg (by omega)]
theorem mapM_rel {E : Env} {w : World} {a : Act} {N : Nat} {fr : Fr} {st : St} (hf : FrRel E N fr a) (hs : Sim E st w) : ∀ (rs : List ResultVar) (qs : List RV) (vs : List V), okRes P rs qs = true → resVals fr st qs = some vs →
 ∃ xs : List Value, (rs.mapM (fun
  | .tmp t => pure (a.tmps.getD t undef)
  | .cell x t => do loadVar t (← asAddr (a.tmps.getD x undef)) : ResultVar → Sem Value)).run P w = .ok xs w ∧ RelL E.cut vs xs.toArray
 | [], [], vs, _, h => by
   simp only [resVals, Option.some.injEq] at h
   subst h
   exact ⟨[], rfl, rfl, fun j v x hj => by simp at hj⟩
 | r :: rs, [], vs, hk, h => by cases r <;> simp [okRes] at hk
 | [], q :: qs, vs, hk, h => by simp [okRes] at hk
 | r :: rs, q :: qs, vs, hk, h => by
   simp only [resVals] at h
   split at h
   case h_2 => cases h
   rename_i v vr hv hvr
   simp only [Option.some.injEq] at h
   subst h
   have one : ∃ x, ((match r with
    | .tmp t => pure (a.tmps.getD t undef)
    | .cell x t => do loadVar t (← asAddr (a.tmps.getD x undef)) : Sem Value)).run P w = .ok x w ∧ Rel E.cut v x := by
    cases r with
    | tmp t =>
      cases q with
      | cell => simp [okRes] at hk
      | t n =>
        simp only [okRes, Bool.and_eq_true, decide_eq_true_eq] at hk
        obtain ⟨rfl, _⟩ := hk
        exact ⟨_, rfl, pass_rel hv (hf.rel t)⟩
    | cell y t =>
      cases q with
      | t n => simp [okRes] at hk
      | cell n sz =>
        simp only [okRes, Bool.and_eq_true, decide_eq_true_eq] at hk
        obtain ⟨⟨rfl, hz⟩, _⟩ := hk
        simp only [resVal] at hv
        split at hv
        case h_2 => cases hv
        rename_i k off hp
        split at hv
        case h_2 => cases hv
        rename_i c hob
        split at hv
        case h_2 => cases hv
        rename_i u hu
        have hr := hf.rel y
        rw [hp] at hr
        generalize hyy : a.tmps.getD y undef = yy at hr
        cases hr with
        | deep hd => cases hd
        | p _ _ hk' =>
          obtain ⟨x, hx, hrx⟩ := run_load_cells (P := P) hz ((hs.cs hob).cellsAt.mono (E.at_le k)) hu
          exact ⟨x, by simp only [hyy, asAddr, Sem.run_bind, Sem.run_pure, Result.andThen_ok]; exact hx, pass_rel hv hrx⟩
   obtain ⟨x, hx, hrx⟩ := one
   have hk2 : okRes P rs qs = true := by
    cases r <;> cases q <;> simp [okRes] at hk
    · exact hk.2
    · exact hk.2
   obtain ⟨xs, hxs, hl⟩ := mapM_rel hf hs rs qs vr hk2 hvr
   refine ⟨x :: xs, ?_, ?_⟩
   · rw [List.mapM_cons]
     simp only [Sem.run_bind]
     rw [hx]
     simp only [Result.andThen_ok]
     rw [hxs]
     rfl
   · refine ⟨by simpa using hl.1, fun j u y hj hy => ?_⟩
     cases j with
     | zero => simp at hj hy; subst hj; subst hy; exact hrx
     | succ j => exact hl.2 j u y (by simpa using hj) (by simpa using hy)
theorem fn_by {f n : Nat} {rvs : List RV} {fn : Func} {c : Code} (hfn : P.funcs[f]? = some fn) (hb : fn.body = some c) (k1 : bodyOk P f = true) (k3 : okRes P fn.results.toList rvs = true) (k4 : n ≤ fn.ntmps)
 {args : List V} (hn : args.length = n) {h : Heap} {K : V → Heap → Prop}
 (hw : ∀ (E : Env) (w : World) (a : Act), Sim E (gst h) w → FrRel E fn.ntmps (paramFrame 0 args) a → a.defers = [] → c.wp P (Post fn.ntmps E (gst h) w (retK rvs K)) a w) : ACall P f args h K := by
 refine ⟨k1, fun E w vs hnl hs hv => ?_⟩
 refine calls_of_wp hfn hb ?_
 have hvl := hv.1
 have hfr : FrRel E fn.ntmps (paramFrame 0 args) { tmps := vs ++ Array.replicate (fn.ntmps - vs.size) undef, defers := [] } := by
  refine ⟨by simp; omega, fun t => ?_⟩
  rw [paramFrame_get, if_pos (Nat.zero_le _), Nat.sub_zero]
  by_cases ht : t < args.length
  · have h1 : args[t]? = some args[t] := by simp [ht]
    obtain ⟨x, hx, hr⟩ := hv.get h1
    have : (vs ++ Array.replicate (fn.ntmps - vs.size) undef).getD t undef = x := by
     rw [Array.getD_eq_getD_getElem?, Array.getElem?_append_left (by omega), hx]; rfl
    rw [this]
    simp only [List.getD_eq_getElem?_getD, h1, Option.getD_some]
    exact hr
  · simp only [List.getD_eq_getElem?_getD, List.getElem?_eq_none (Nat.le_of_not_lt ht), Option.getD_none]
    exact .junk _
 refine wp_mono (hw E w _ hs hfr rfl) ?_
 have fin : ∀ (a : Act) (w' : World), Held fn.ntmps E (gst h) w (fun fr st => match resOf fr st rvs with | some v => K v st.g | none => False) a w' →
  a.defers = [] ∧ ∃ v, (results fn a.tmps).run P w' = .ok v w' ∧ ∃ v' x h' E', K v' h' ∧ Ending.returned v = .returned x ∧ E'.nl = 0 ∧ Sim E' (gst h') w' ∧ Ext E (gst h) w E' (gst h') w' ∧ Rel E' v' x := by
  rintro a w' ⟨fr, st, E', hr, s1, s2, s3, s4⟩
  refine ⟨s4, ?_⟩
  have hext : Ext E (gst h) w E'.cut (gst st.g) w' := by
   have hl : ∀ k, (gst st.g).live k → st.live k := by
    intro k hk
    obtain ⟨n, rfl, o, ho⟩ := gst_live hk
    exact ⟨o, ho⟩
   refine ⟨⟨s2.le.imm, s2.le.ng, by rw [hnl]; exact Nat.zero_le _, s2.le.loc⟩, s2.size, s2.immNew, fun k hk he => s2.keyOld k (hl k hk) he, fun k hk he => s2.keyNew k (hl k hk) he, s2.same, s2.os, s2.out, s2.tape⟩
  unfold resOf at hr
  cases hrv : resVals fr st rvs with
  | none => rw [hrv] at hr; exact hr.elim
  | some us =>
    obtain ⟨xs, hx1, hx2⟩ := mapM_rel (P := P) s3 s1 fn.results.toList rvs us k3 hrv
    have hm : (fn.results.mapM (fun
     | .tmp t => pure (a.tmps.getD t undef)
     | .cell x t => do loadVar t (← asAddr (a.tmps.getD x undef)) : ResultVar → Sem Value)).run P w' = .ok xs.toArray w' := by
     have e : fn.results = fn.results.toList.toArray := by simp
     rw [e, List.mapM_toArray, map_eq_pure_bind]
     simp only [Sem.run_bind, hx1, Result.andThen_ok, Sem.run_pure]
    have hlen := hx2.1
    rw [hrv] at hr
    match us, xs, hlen, hx2, hr, hm with
    | [v], [x], _, hx2, hr, hm =>
      refine ⟨x, ?_, v, x, st.g, E'.cut, hr, rfl, rfl, s1.cut, hext, hx2.2 0 v x rfl (by simp)⟩
      simp only [results, Sem.run_bind]
      exact andThen_eq hm (by simp)
    | [], [], _, hx2, hr, hm =>
      refine ⟨.tuple #[], ?_, .tup [], .tuple #[], st.g, E'.cut, hr, rfl, rfl, s1.cut, hext, undef_rel⟩
      simp only [results, Sem.run_bind]
      exact andThen_eq hm (by simp)
    | v1 :: v2 :: vr, x1 :: x2 :: xr, _, hx2, hr, hm =>
      refine ⟨.tuple (x1 :: x2 :: xr).toArray, ?_, .tup (v1 :: v2 :: vr), _, st.g, E'.cut, hr, rfl, rfl, s1.cut, hext, .tup _ _ hx2.1 hx2.2⟩
      simp only [results, Sem.run_bind]
      exact andThen_eq hm (by simp)
 intro e a w' hq
 cases e with
 | normal => exact fin a w' hq
 | ret => exact fin a w' hq
 | exit id => obtain ⟨fr, st, E', h1, _⟩ := hq; exact h1.elim
 | goto l => exact hq.elim
 | panic ch => exact hq.elim
 | outgrown => exact hq.elim
theorem fn_ok {f : Nat} {F : AFn} (hk : okFn P f F = true) {args : List V} (hn : args.length = F.nparams) {h : Heap} {K : V → Heap → Prop}
 (hw : wpC (ACall P) F.body (retK F.results K) (paramFrame 0 args) (gst h)) : ACall P f args h K := by
 unfold okFn at hk
 split at hk
 case h_2 => cases hk
 rename_i fn hfn
 split at hk
 case h_2 => cases hk
 rename_i c hb
 simp only [Bool.and_eq_true, decide_eq_true_eq] at hk
 obtain ⟨⟨⟨k1, k2⟩, k3⟩, k4⟩ := hk
 exact fn_by hfn hb k1 k3 k4 hn fun E w a hs hfr hd => code_ok (E0 := E) (st0 := gst h) (w0 := w) F.body c k2 _ hs (.refl _ _ _) hfr hd hw
end
end Go.Eng
/-
A run of so much fuel, and what it promises.
-/
namespace Go.Eng
open Go
abbrev Orc := Nat → List V → Heap → Option (V × Heap)
def onceRun (run : Orc) (args : List V) (h : Heap) : Option (V × Heap) :=
 match args with
 | [.p (.g k) off, .fn g first cap] => match h.get k with
   | some (.cs c) => match c[off]? with
     | some (.i .u32 d) => match decide (d = 0) with
       | true => match c[off + 1]? with
         | some (.i .i32 m) => match decide (m = 0) with
           | true => match run g (first ++ cap) (h.set k (.cs (c.set (off + 1) (.i .i32 1)))) with
             | some (_, h2) => match h2.get k with
               | some (.cs c2) => match c2[off]?, c2[off + 1]? with
                 | some (.i .u32 d2), some (.i .i32 m2) => match decide (d2 = 0) && decide (m2 = 1) with
                   | true => some (.tup [], h2.set k (.cs ((c2.set off (.i .u32 1)).set (off + 1) (.i .i32 0))))
                   | false => none
                 | _, _ => none
               | _ => none
             | none => none
           | false => none
         | _ => none
       | false => some (.tup [], h)
     | _ => none
   | _ => none
 | _ => none
structure OnceOk (P : Program) (once : Nat) : Prop where
 done : ∀ (k off g : Nat) (first cap c : List V) (d : Int) (h : Heap) (K : V → Heap → Prop), h.get k = some (.cs c) → c[off]? = some (.i .u32 d) → d ≠ 0 → K (.tup []) h → ACall P once [.p (.g k) off, .fn g first cap] h K
 first : ∀ (k off g : Nat) (first cap c : List V) (h : Heap) (K : V → Heap → Prop), h.get k = some (.cs c) → c[off]? = some (.i .u32 0) → c[off + 1]? = some (.i .i32 0) →
  ACall P g (first ++ cap) (h.set k (.cs (c.set (off + 1) (.i .i32 1)))) (fun _ h2 => ∃ c2, h2.get k = some (.cs c2) ∧ c2[off]? = some (.i .u32 0) ∧ c2[off + 1]? = some (.i .i32 1) ∧
   K (.tup []) (h2.set k (.cs ((c2.set off (.i .u32 1)).set (off + 1) (.i .i32 0))))) → ACall P once [.p (.g k) off, .fn g first cap] h K
def RunOk (P : Program) (run : Orc) : Prop := ∀ f args h r h', run f args h = some (r, h') → ∀ K : V → Heap → Prop, K r h' → ACall P f args h K
theorem onceRun_ok {P : Program} {once : Nat} (ho : OnceOk P once) {run : Orc} (hr : RunOk P run) {args : List V} {h : Heap} {r : V} {h' : Heap} (hx : onceRun run args h = some (r, h')) {K : V → Heap → Prop} (hK : K r h') : ACall P once args h K := by
 unfold onceRun at hx
 split at hx
 case h_2 => cases hx
 rename_i k off g first cap
 split at hx
 case h_2 => cases hx
 rename_i c hc
 split at hx
 case h_2 => cases hx
 rename_i d hd
 split at hx
 · rename_i d0
   have d0 := of_decide_eq_true d0
   subst d0
   split at hx
   case h_2 => cases hx
   rename_i m hm
   split at hx
   case h_2 => cases hx
   rename_i m0
   have m0 := of_decide_eq_true m0
   subst m0
   split at hx
   case h_2 => cases hx
   rename_i v h2 hrun
   split at hx
   case h_2 => cases hx
   rename_i c2 hc2
   split at hx
   case h_2 => cases hx
   rename_i d2 m2 e1 e2
   split at hx
   case h_2 => cases hx
   rename_i hdm
   simp only [Bool.and_eq_true, decide_eq_true_eq] at hdm
   obtain ⟨rfl, rfl⟩ := hdm
   cases hx
   exact ho.first k off g first cap c h K hc hd hm (hr _ _ _ _ _ hrun _ ⟨c2, hc2, e1, e2, hK⟩)
 · rename_i d0
   have d0 := of_decide_eq_false d0
   cases hx
   exact ho.done k off g first cap c d h K hc hd d0 hK
def exec (fns : Nat → Option AFn) (once : Nat) (orc : Orc) : Nat → AC → Fr → St → Option (Ex × Fr × St)
 | 0, _, _, _ => none
 | n + 1, c, fr, st =>
   let run (f : Nat) (args : List V) (h : Heap) : Option (V × Heap) := match fns f with
    | none => none
    | some fn => match Nat.beq args.length fn.nparams with
      | false => none
      | true => match exec fns once orc n fn.body (paramFrame 0 args) ⟨h, noL⟩ with
        | some (.normal, fr, st) => match resOf fr st fn.results with
          | some v => some (v, st.g)
          | none => none
        | some (.ret, fr, st) => match resOf fr st fn.results with
          | some v => some (v, st.g)
          | none => none
        | _ => none
   let rf (f : Nat) (args : List V) (h : Heap) : Option (V × Heap) :=
    match orc f args h with
    | some r => some r
    | none => match Nat.beq f once with
      | true => onceRun run args h
      | false => run f args h
   match c with
   | .skip => some (.normal, fr, st)
   | .reg ops => match (runOps ops fr st).run rf with
     | some (fr, st) => some (.normal, fr, st)
     | none => none
   | .dreg ds kill => match (runD [] ds fr st).run rf with
     | some (fr, st) => fr.cut kill fun fr => some (.normal, fr, st)
     | none => none
   | .seq a b => match exec fns once orc n a fr st with
     | some (.normal, fr, st) => exec fns once orc n b fr st
     | r => r
   | .cond c a b => match c.ev fr with
     | .b true => exec fns once orc n a fr st
     | .b false => exec fns once orc n b fr st
     | _ => none
   | .blk id b => match exec fns once orc n b fr st with
     | some (.exit id', fr, st) => match Nat.beq id' id with
       | true => some (.normal, fr, st)
       | false => some (.exit id', fr, st)
     | r => r
   | .loop b => match exec fns once orc n b fr st with
     | some (.normal, fr, st) => exec fns once orc n (.loop b) fr st
     | r => r
   | .exit id => some (.exit id, fr, st)
   | .ret => some (.ret, fr, st)
   | .no => none
theorem run_wp {A : CallP} {α : Type} {rf : Orc} (hr : ∀ f args h r h', rf f args h = some (r, h') → ∀ K : V → Heap → Prop, K r h' → A f args h K) : ∀ {t : T α} {a : α}, t.run rf = some a → ∀ K : α → Prop, K a → t.wp A K
 | .ret x, a, h, K, hk => by simp only [T.run, Option.some.injEq] at h; subst h; exact hk
 | .ite c t e, a, h, K, hk => by
   cases c with
   | true => exact wIf_t rfl (run_wp hr (t := t) h K hk)
   | false => exact wIf_f rfl (run_wp hr (t := e) h K hk)
 | .elem o k, a, h, K, hk => by
   cases o with
   | none => simp [T.run] at h
   | some x => exact ⟨x, rfl, run_wp hr (t := k x) h K hk⟩
 | .byte o k, a, h, K, hk => by
   cases o with
   | none => simp [T.run] at h
   | some x => exact ⟨x, rfl, run_wp hr (t := k x) h K hk⟩
 | .els o k, a, h, K, hk => by
   cases o with
   | none => simp [T.run] at h
   | some x => exact ⟨x, rfl, run_wp hr (t := k x) h K hk⟩
 | .bys o k, a, h, K, hk => by
   cases o with
   | none => simp [T.run] at h
   | some x => exact ⟨x, rfl, run_wp hr (t := k x) h K hk⟩
 | .obj o k, a, h, K, hk => by
   cases o with
   | none => simp [T.run] at h
   | some x => exact ⟨x, rfl, run_wp hr (t := k x) h K hk⟩
 | .optc o n k, a, h, K, hk => by
   cases o with
   | none => exact wOpt_n rfl (run_wp hr (t := n) h K hk)
   | some x => exact wOpt_i rfl (run_wp hr (t := k x) h K hk)
 | .chk c k, a, h, K, hk => by
   cases c with
   | true => exact ⟨rfl, run_wp hr (t := k) h K hk⟩
   | false => simp [T.run] at h
 | .wrap kd n k, a, h, K, hk => .inl (run_wp hr (t := k (kd.wrap n)) h K hk)
 | .any k, a, h, K, hk => by simp [T.run] at h
 | .same v u k, a, h, K, hk => by
   simp only [T.run] at h
   cases hb : v.beq u with
   | true => rw [hb] at h; exact ⟨V.beq_eq hb, run_wp hr (t := k) h K hk⟩
   | false => rw [hb] at h; simp at h
 | .call f args hh k, a, h, K, hk => by
   simp only [T.run] at h
   cases hq : rf f args hh with
   | none => rw [hq] at h; simp at h
   | some p =>
     obtain ⟨r, h'⟩ := p
     rw [hq] at h
     exact hr f args hh r h' hq _ (run_wp hr (t := k r h') h K hk)
 | .fail, a, h, K, hk => by simp [T.run] at h
abbrev OrcOk (P : Program) (orc : Orc) : Prop := RunOk P orc
def FnsOk (P : Program) (fns : Nat → Option AFn) : Prop := ∀ f F, fns f = some F → okFn P f F = true
theorem exec_ok {P : Program} {fns : Nat → Option AFn} {once : Nat} {orc : Orc} (hf : FnsOk P fns) (hon : OnceOk P once) (ho : OrcOk P orc) : ∀ (n : Nat) (c : AC) (fr : Fr) (st : St) (e : Ex) (fr' : Fr) (st' : St),
 exec fns once orc n c fr st = some (e, fr', st') → ∀ Q : Ex → Fr → St → Prop, Q e fr' st' → wpC (ACall P) c Q fr st
 | 0, c, fr, st, e, fr', st', h, Q, hq => by simp [exec] at h
 | n + 1, c, fr, st, e, fr', st', h, Q, hq => by
   have ih := exec_ok hf hon ho n
   have hrun : RunOk P (fun (f : Nat) (args : List V) (h : Heap) => (match fns f with
    | none => none
    | some fn => match Nat.beq args.length fn.nparams with
      | false => none
      | true => match exec fns once orc n fn.body (paramFrame 0 args) ⟨h, noL⟩ with
        | some (.normal, fr, st) => match resOf fr st fn.results with
          | some v => some (v, st.g)
          | none => none
        | some (.ret, fr, st) => match resOf fr st fn.results with
          | some v => some (v, st.g)
          | none => none
        | _ => none : Option (V × Heap))) := by
    intro f args hh r h' hr K hK
    dsimp only at hr
    split at hr
    · cases hr
    · rename_i fn hfn
      split at hr
      · cases hr
      · rename_i hn
        have hn := Nat.eq_of_beq_eq_true hn
        split at hr
        · rename_i fr1 st1 hx
          split at hr
          · rename_i v hv
            cases hr
            exact fn_ok (hf f fn hfn) hn (ih _ _ _ _ _ _ hx _ (by simp only [retK, hv]; exact hK))
          · cases hr
        · rename_i fr1 st1 hx
          split at hr
          · rename_i v hv
            cases hr
            exact fn_ok (hf f fn hfn) hn (ih _ _ _ _ _ _ hx _ (by simp only [retK, hv]; exact hK))
          · cases hr
        · cases hr
   have hrf : RunOk P (fun (f : Nat) (args : List V) (h : Heap) => (match orc f args h with
    | some r => some r
    | none => match Nat.beq f once with
      | true => onceRun (fun (f : Nat) (args : List V) (h : Heap) => (match fns f with
        | none => none
        | some fn => match Nat.beq args.length fn.nparams with
          | false => none
          | true => match exec fns once orc n fn.body (paramFrame 0 args) ⟨h, noL⟩ with
            | some (.normal, fr, st) => match resOf fr st fn.results with
              | some v => some (v, st.g)
              | none => none
            | some (.ret, fr, st) => match resOf fr st fn.results with
              | some v => some (v, st.g)
              | none => none
            | _ => none : Option (V × Heap))) args h
      | false => (match fns f with
        | none => none
        | some fn => match Nat.beq args.length fn.nparams with
          | false => none
          | true => match exec fns once orc n fn.body (paramFrame 0 args) ⟨h, noL⟩ with
            | some (.normal, fr, st) => match resOf fr st fn.results with
              | some v => some (v, st.g)
              | none => none
            | some (.ret, fr, st) => match resOf fr st fn.results with
              | some v => some (v, st.g)
              | none => none
            | _ => none : Option (V × Heap)) : Option (V × Heap))) := by
    intro f args hh r h' hr K hK
    dsimp only at hr
    split at hr
    · rename_i r0 h0
      cases hr
      exact ho f args hh r h' h0 K hK
    · split at hr
      · rename_i hb
        have hb := Nat.eq_of_beq_eq_true hb
        subst hb
        exact onceRun_ok hon hrun hr hK
      · exact hrun f args hh r h' hr K hK
   simp only [exec] at h
   split at h
   · cases h; exact hq
   · split at h
     · rename_i fr1 st1 hx
       cases h
       exact run_wp hrf hx _ hq
     · cases h
   · split at h
     · rename_i fr1 st1 hx
       rw [Fr.cut_eq] at h
       cases h
       simp only [wpC]
       rw [T.wp_bind]
       refine run_wp hrf hx _ ?_
       simp only [cutT]
       rw [Fr.cut_eq]
       exact hq
     · cases h
   · rename_i a b
     split at h
     · rename_i fr1 st1 hx
       exact ih _ _ _ _ _ _ hx _ (ih _ _ _ _ _ _ h _ hq)
     · rename_i hno
       refine ih _ _ _ _ _ _ h _ ?_
       cases e with
       | normal => exact (hno _ _ h).elim
       | exit id => exact hq
       | ret => exact hq
   · rename_i c a b
     simp only [wpC]
     split at h
     · rename_i hb
       rw [hb]
       exact wIf_t rfl (ih _ _ _ _ _ _ h _ hq)
     · rename_i hb
       rw [hb]
       exact wIf_f rfl (ih _ _ _ _ _ _ h _ hq)
     · cases h
   · rename_i id b
     split at h
     · rename_i id' fr1 st1 hx
       split at h
       · rename_i hid
         have hid := Nat.eq_of_beq_eq_true hid
         cases h
         refine ih _ _ _ _ _ _ hx _ ?_
         simp only [blkK, if_pos hid]; exact hq
       · rename_i hid
         have hid := Nat.ne_of_beq_eq_false hid
         cases h
         refine ih _ _ _ _ _ _ hx _ ?_
         simp only [blkK, if_neg hid]; exact hq
     · rename_i hno
       refine ih _ _ _ _ _ _ h _ ?_
       cases e with
       | normal => exact hq
       | exit id => exact (hno _ _ _ h).elim
       | ret => exact hq
   · rename_i b
     intro R hR
     split at h
     · rename_i fr1 st1 hx
       exact hR _ _ _ (Fr.le_refl _) (ih _ _ _ _ _ _ hx _ (ih _ _ _ _ _ _ h Q hq R hR))
     · rename_i hno
       refine hR _ _ _ (Fr.le_refl _) (ih _ _ _ _ _ _ h _ ?_)
       cases e with
       | normal => exact (hno _ _ h).elim
       | exit id => exact hq
       | ret => exact hq
   · cases h; exact hq
   · cases h; exact hq
   · cases h
inductive FT where
 | nil
 | node (l : FT) (k : Nat) (F : AFn) (r : FT)
def FT.get : FT → Nat → Option AFn
 | .nil, _ => none
 | .node l k F r, f => match Nat.beq f k with
   | true => some F
   | false => match Nat.ble f k with
     | true => l.get f
     | false => r.get f
def FT.ok (P : Program) : FT → Bool
 | .nil => true
 | .node l k F r => okFn P k F && (l.ok P && r.ok P)
theorem FT.get_ok {P : Program} : ∀ {t : FT}, t.ok P = true → FnsOk P t.get
 | .nil, _, f, F, h => by simp [FT.get] at h
 | .node l k G r, hk, f, F, h => by
   simp only [FT.ok, Bool.and_eq_true] at hk
   simp only [FT.get] at h
   split at h
   · rename_i hb
     have := Nat.eq_of_beq_eq_true hb
     subst this
     cases h
     exact hk.1
   · split at h
     · exact FT.get_ok hk.2.1 f F h
     · exact FT.get_ok hk.2.2 f F h
theorem FT.node_ok {P : Program} {l r : FT} {k : Nat} {F : AFn} (a : okFn P k F = true) (b : l.ok P = true) (c : r.ok P = true) : (FT.node l k F r).ok P = true := by simp [FT.ok, a, b, c]
def runFn (fns : Nat → Option AFn) (once : Nat) (orc : Orc) (n : Nat) (f : Nat) (args : List V) (h : Heap) : Option (V × Heap) :=
 match fns f with
 | none => none
 | some fn => match Nat.beq args.length fn.nparams with
   | false => none
   | true => match exec fns once orc n fn.body (paramFrame 0 args) ⟨h, noL⟩ with
     | some (.normal, fr, st) => match resOf fr st fn.results with
       | some v => some (v, st.g)
       | none => none
     | some (.ret, fr, st) => match resOf fr st fn.results with
       | some v => some (v, st.g)
       | none => none
     | _ => none
theorem runFn_ok {P : Program} {fns : Nat → Option AFn} {once : Nat} {orc : Orc} (hf : FnsOk P fns) (hon : OnceOk P once) (ho : OrcOk P orc) {n f : Nat} {args : List V} {h : Heap} {r : V} {h' : Heap}
 (hr : runFn fns once orc n f args h = some (r, h')) {K : V → Heap → Prop} (hK : K r h') : ACall P f args h K := by
 unfold runFn at hr
 split at hr
 · cases hr
 · rename_i fn hfn
   split at hr
   · cases hr
   · rename_i hn
     have hn := Nat.eq_of_beq_eq_true hn
     split at hr
     · rename_i fr1 st1 hx
       split at hr
       · rename_i v hv
         cases hr
         exact fn_ok (hf f fn hfn) hn (exec_ok hf hon ho _ _ _ _ _ _ _ hx _ (by simp only [retK, hv]; exact hK))
       · cases hr
     · rename_i fr1 st1 hx
       split at hr
       · rename_i v hv
         cases hr
         exact fn_ok (hf f fn hfn) hn (exec_ok hf hon ho _ _ _ _ _ _ _ hx _ (by simp only [retK, hv]; exact hK))
       · cases hr
     · cases hr
end Go.Eng
/-
Short names for the abstract texts.
-/
namespace Go.Eng
instance instOpdNat (n : Nat) : OfNat Opd n := ⟨.t n⟩
abbrev kI (n : Int) : Opd := .c (.i .i64 n)
abbrev kT : Opd := .c (.b true)
abbrev kF : Opd := .c (.b false)
abbrev vI (n : Int) : V := .i .i64 n
abbrev vS : V := .s []
abbrev oO (d : Nat) (o : AOp) (k : List Nat) : AOper := ⟨some d, o, none, k⟩
abbrev oM (d : Nat) (x : Opd) (k : List Nat) : AOper := ⟨some d, .mv x, none, k⟩
abbrev oA (d : Nat) (x : Opd) (k : List Nat) : AOper := ⟨some d, .asg x, none, k⟩
abbrev oN (o : AOp) (k : List Nat) : AOper := ⟨none, o, none, k⟩
abbrev oG (d : Nat) (o : AOp) (t : Nat) (k : List Nat) : AOper := ⟨some d, o, some (t, true), k⟩
abbrev oH (d : Nat) (o : AOp) (t : Nat) (k : List Nat) : AOper := ⟨some d, o, some (t, false), k⟩
abbrev rR (l : List AOper) : AC := .reg l
abbrev rS (l : List AOper) (c : AC) : AC := .seq (.reg l) c
abbrev oL (d s : Nat) : AOper := oO d (.load none (.t s)) [s]
abbrev oK (d s : Nat) : AOper := oO d (.load none (.t s)) []
abbrev oF (d f s : Nat) : AOper := oO d (.faddr f (.t s)) []
abbrev oE (d f s : Nat) : AOper := oO d (.faddr f (.t s)) [s]
abbrev oP (d s : Nat) : AOper := oM d (.t s) []
abbrev oQ (d s : Nat) : AOper := oM d (.t s) [s]
abbrev oB (d s : Nat) : AOper := oA d (.t s) [s]
abbrev dq (i : Nat) (o : AOper) : DOper := ⟨i, o, false, []⟩
abbrev zP : List V := [vS, vI 0, vI 0, vI 0, vI 0, vI 0, .nils, .nils, .nils, .nils, vS, .nils, vI 0, .nils, vS, vI 0]
abbrev zN : List V := [vS, vI 0, vI 0, vI 0, .nils, .nils]
abbrev zW : List V := [(.i .u32 0),(.i .i32 0),(.i .u32 0),(.i .u64 0),(.i .u64 0),(.i .u64 0),(.i .u64 0),(.i .u64 0),(.i .u64 0),(.i .u64 0),(.i .u64 0),(.i .u64 0),(.i .u64 0),(.i .u64 0),(.i .u64 0),(.i .u64 0),(.i .u64 0),(.i .u64 0),(.i .u64 0),(.i .u64 0),(.i .u64 0),(.i .u64 0),(.i .u64 0),(.i .u64 0),(.i .u64 0),(.i .u64 0),(.i .u64 0),(.i .u64 0),(.i .u64 0),(.i .u64 0),(.i .u64 0),(.i .u64 0),(.i .u64 0),(.i .u64 0),(.i .u64 0),(.i .u64 0),(.i .u64 0),(.i .u64 0),(.i .u64 0),(.i .u64 0),(.i .u64 0),(.i .u64 0),(.i .u64 0),(.i .u64 0),(.i .u64 0),(.i .u64 0),(.i .u64 0),(.i .u64 0),(.i .u64 0),(.i .u64 0),(.i .u64 0),(.i .u64 0),(.i .u64 0),(.i .u64 0),(.i .u64 0),(.i .u64 0),(.i .u64 0),(.i .u64 0),(.i .u64 0),(.i .u64 0),(.i .u64 0),(.i .u64 0),(.i .u64 0),(.i .u64 0),(.i .u64 0),(.i .u64 0),(.i .u64 0),(.i .u64 0),(.i .u64 0),(.i .u64 0),(.i .u64 0),(.i .u64 0),(.i .u64 0),(.i .u64 0),(.i .u64 0),(.i .u64 0),(.i .u64 0),(.i .u64 0),(.i .u64 0),(.i .u64 0),(.i .u64 0),(.i .u64 0),(.i .u64 0),(.i .u64 0),(.i .u64 0),(.i .u64 0),(.i .u64 0),(.i .u64 0),(.i .u64 0),(.i .u64 0),(.i .u64 0),(.i .u64 0),(.i .u64 0),(.i .u64 0),(.i .u64 0),(.i .u64 0),(.i .u64 0),(.i .u64 0),(.i .u64 0),(.i .u64 0),(.i .u64 0),(.i .u64 0),(.i .u64 0),(.i .u64 0),(.i .u64 0),(.i .u64 0),(.i .u64 0),(.i .u64 0),(.i .u64 0),(.i .u64 0),(.i .u64 0),(.i .u64 0),(.i .u64 0),(.i .u64 0),(.i .u64 0),(.i .u64 0),(.i .u64 0),(.i .u64 0),(.i .u64 0),(.i .u64 0),(.i .u64 0),(.i .u64 0),(.i .u64 0),(.i .u64 0),(.i .u64 0),(.i .u64 0),(.i .u64 0),(.i .u64 0),(.i .u64 0),(.i .u64 0),(.i .u64 0),(.i .u64 0),(.i .u64 0),(.i .u64 0),(.i .u64 0),(.i .u64 0),(.i .u64 0),(.i .u64 0),(.i .u64 0),(.i .u64 0),(.i .u64 0),(.i .u64 0),(.i .u64 0),(.i .u64 0),(.i .u64 0),(.i .u64 0),(.i .u64 0),(.i .u64 0),(.i .u64 0),(.i .u64 0),(.i .u64 0),(.i .u64 0),(.i .u64 0),(.i .u64 0),(.i .u64 0),(.i .u64 0),(.i .u64 0),(.i .u64 0),(.i .u64 0),(.i .u64 0),(.i .u64 0),(.i .u64 0),(.i .u64 0),(.i .u64 0),(.i .u64 0),(.i .u64 0),(.i .u64 0),(.i .u64 0),(.i .u64 0),(.i .u64 0),(.i .u64 0),(.i .u64 0),(.i .u64 0),(.i .u64 0),(.i .u64 0),(.i .u64 0),(.i .u64 0),(.i .u64 0),(.i .u64 0),(.i .u64 0),(.i .u64 0),(.i .u64 0),(.i .u64 0),(.i .u64 0),(.i .u64 0),(.i .u64 0),(.i .u64 0),(.i .u64 0),(.i .u64 0),(.i .u64 0),(.i .u64 0),(.i .u64 0),(.i .u64 0),(.i .u64 0),(.i .u64 0),(.i .u64 0),(.i .u64 0),(.i .u64 0),(.i .u64 0),(.i .u64 0),(.i .u64 0),(.i .u64 0),(.i .u64 0),(.i .u64 0),(.i .u64 0),(.i .u64 0),(.i .u64 0),(.i .u64 0),(.i .u64 0),(.i .u64 0),(.i .u64 0),(.i .u64 0),(.i .u64 0),(.i .u64 0),(.i .u64 0),(.i .u64 0),(.i .u64 0),(.i .u64 0),(.i .u64 0),(.i .u64 0),(.i .u64 0),(.i .u64 0),(.i .u64 0),(.i .u64 0),(.i .u64 0),(.i .u64 0),(.i .u64 0),(.i .u64 0),(.i .u64 0),(.i .u64 0),(.i .u64 0),(.i .u64 0),(.i .u64 0),(.i .u64 0),(.i .u64 0),(.i .u64 0),(.i .u64 0),(.i .u64 0),(.i .u64 0),(.i .u64 0),(.i .u64 0),(.i .u64 0),(.i .u64 0),(.i .u64 0),(.i .u64 0),(.i .u64 0),(.i .u64 0),(.i .u64 0),(.i .u64 0),(.i .u64 0),(.i .u64 0),(.i .u64 0),(.i .u64 0),(.i .u64 0),(.i .u64 0),(.i .u64 0),(.i .u64 0),(.i .u64 0),(.i .u64 0),(.i .u8 0),(.i .u8 0),(.i .u8 0),(.i .u8 0),(.i .u8 0),(.i .u8 0),(.i .u8 0),(.i .u8 0),(.i .u8 0),(.i .u8 0),(.i .u8 0),(.i .u8 0),(.i .u8 0),(.i .u8 0),(.i .u8 0),(.i .u8 0),(.i .u8 0),(.i .u8 0),(.i .u8 0),(.i .u8 0),(.i .u8 0),(.i .u8 0),(.i .u8 0),(.i .u8 0),(.i .u8 0),(.i .u8 0),(.i .u8 0),(.i .u8 0),(.i .u8 0),(.i .u8 0),(.i .u8 0),(.i .u8 0),(.i .u8 0),(.i .u8 0),(.i .u8 0),(.i .u8 0),(.i .u8 0),(.i .u8 0),.nils]
abbrev zV : List V := zW ++ [.b false]
abbrev oC (d f : Nat) (a : List Nat) : AOper := oO d (.call f (a.map Opd.t)) a
abbrev oZ (d : Nat) (o : BinOp) (a b : Nat) : AOper := oO d (.bin o (.t a) (.t b)) [a, b]
abbrev oU (d : Nat) (o : BinOp) (a : Nat) (x : Opd) (k : List Nat) : AOper := oO d (.bin o (.t a) x) k
abbrev oT (d s : Nat) : AOper := oO d (.lenL (.t s)) [s]
abbrev oX (d s i : Nat) : AOper := oO d (.ext (.t s) i) []
abbrev oI (d a b : Nat) : AOper := oO d (.pick (.t a) (.t b) kF) [a, b]
abbrev oY (d s : Nat) : AOper := oO d (.un .not (.t s)) [s]
abbrev cX (t b : Nat) : AC := .cond (.t t) .skip (.exit b)
abbrev cR (t r : Nat) : AC := .cond (.t t) (rS [oA r kF []] .ret) .skip
end Go.Eng
/-
What some functions of the library do: as oracles of the abstract run.
-/
namespace Go.Eng
open Go
def addRun (args : List V) (h : Heap) : Option (V × Heap) :=
 match args with
 | [.p (.g k) off, .i .i64 n] => match h.get k with
   | some (.cs c) => match c[off]? with
     | some (.i .i64 m) => some (.i .i64 (IntKind.i64.wrap (m + n)), h.set k (.cs (c.set off (.i .i64 (IntKind.i64.wrap (m + n))))))
     | _ => none
   | _ => none
 | _ => none
def sortedRun (keys : Nat) (args : List V) (h : Heap) : Option (V × Heap) :=
 match args with
 | [.fn f [] [.p (.g k) off]] => match Nat.beq f keys && Nat.beq off 0 with
   | true => match h.get k with
     | some (.cs c) => match c[off]? with
       | some (.m (.g mk)) => match h.get mk with
         | some (.mp none [(.s x, _)]) => match decide (x.length ≤ 9223372036854775807) with
           | true => some (.sl none 1 [[.s x]], h)
           | false => none
         | _ => none
       | _ => none
     | _ => none
   | false => none
 | _ => none
def orcOf (add sorted keys : Nat) : Orc := fun f args h =>
 match Nat.beq f add with
 | true => addRun args h
 | false => match Nat.beq f sorted with
   | true => sortedRun keys args h
   | false => none
def known (cs : List Nat) (base : Orc) : Orc := fun f args h =>
 match memNat f cs with
 | true => match args with
   | [] => some (.b true, h)
   | _ => none
 | false => base f args h
def cmpB : List UInt8 → List UInt8 → Int
 | [], [] => 0
 | [], _ :: _ => -1
 | _ :: _, [] => 1
 | a :: r, b :: q => match Nat.blt a.toNat b.toNat with
   | true => -1
   | false => match Nat.blt b.toNat a.toNat with
     | true => 1
     | false => cmpB r q
def orcC (cmp : Nat) (base : Orc) : Orc := fun f args h =>
 match Nat.beq f cmp with
 | true => match args with
   | [.s a, .s b] => some (.i .i64 (cmpB a b), h)
   | _ => none
 | false => base f args h
def isTrue : Option (V × Heap) → Bool
 | some (.b true, _) => true
 | _ => false
theorem isTrue_spec {o : Option (V × Heap)} (h : isTrue o = true) : ∃ h', o = some (.b true, h') := by
 unfold isTrue at h
 split at h
 · exact ⟨_, rfl⟩
 · cases h
end Go.Eng
/-
What is promised in an empty heap holds in every heap, where no object's name goes in or comes out.
-/
namespace Go.Eng
open Go
def V.flat : V → Bool
 | .b _ => true
 | .i _ _ => true
 | .s _ => true
 | .nilp => true
 | .nils => true
 | .nilm => true
 | .nilf => true
 | .sl none _ _ => true
 | _ => false
def V.free1 : V → Bool
 | .agg cs => cs.all V.flat
 | .fn _ a c => a.all V.flat && c.all V.flat
 | v => v.flat
def V.free : V → Bool
 | .tup cs => cs.all V.free1
 | v => v.free1
def ImmLe (I J : Imm) : Prop := ∀ b o x, I b o = some x → J b o = some x
theorem flat_rel {E F : Env} (h : ImmLe E.I F.I) {v : V} {x : Value} (hv : v.flat = true) (hr : Rel E v x) : Rel F v x := by
 cases v <;> simp [V.flat] at hv
 case b => cases hr with | deep hd => exact .deep (hd.mono h)
 case i => cases hr with | deep hd => exact .deep (hd.mono h)
 case s => cases hr with | deep hd => exact .deep (hd.mono h)
 case nilp => cases hr with
  | deep hd => exact .deep (hd.mono h)
  | nilp => exact .nilp
 case nils => cases hr with | deep hd => exact .deep (hd.mono h)
 case nilm => cases hr with
  | deep hd => exact .deep (hd.mono h)
  | nilm => exact .nilm
 case nilf => cases hr with
  | deep hd => exact .deep (hd.mono h)
  | nilf => exact .nilf
 case sl tok sz es =>
  cases tok with
  | none => cases hr with | deep hd => exact .deep (hd.mono h)
  | some k => simp at hv
theorem free1_rel {E F : Env} (h : ImmLe E.I F.I) {v : V} {x : Value} (hv : v.free1 = true) (hr : Rel E v x) : Rel F v x := by
 cases v
 case agg cs =>
  simp only [V.free1, List.all_eq_true] at hv
  cases hr with
  | deep hd => cases hd
  | agg _ a ha h1 hra => exact .agg _ _ ha h1 fun j v x hj hx => flat_rel h (hv v (List.mem_of_getElem? hj)) (hra j v x hj hx)
 case fn f a c =>
  simp only [V.free1, Bool.and_eq_true, List.all_eq_true] at hv
  cases hr with
  | deep hd => cases hd
  | fn _ _ _ a' c' ha hc hra hrc => exact .fn _ _ _ _ _ ha hc (fun j v x hj hx => flat_rel h (hv.1 v (List.mem_of_getElem? hj)) (hra j v x hj hx)) (fun j v x hj hx => flat_rel h (hv.2 v (List.mem_of_getElem? hj)) (hrc j v x hj hx))
 all_goals exact flat_rel h hv hr
theorem free_rel {E F : Env} (h : ImmLe E.I F.I) {v : V} {x : Value} (hv : v.free = true) (hr : Rel E v x) : Rel F v x := by
 cases v
 case tup cs =>
  simp only [V.free, List.all_eq_true] at hv
  cases hr with
  | deep hd => cases hd
  | tup _ a ha hra => exact .tup _ _ ha fun j v x hj hx => free1_rel h (hv v (List.mem_of_getElem? hj)) (hra j v x hj hx)
 all_goals exact free1_rel h hv hr
def noG : Heap := ⟨0, []⟩
theorem noG_live {k : Key} : ¬ (gst noG).live k := by
 rintro ⟨o, ho⟩
 cases k with
 | g n => simp [St.get, noG, Heap.get, Heap.find] at ho
 | l n => simp [St.get, noL, Heap.get, Heap.find] at ho
theorem ACall.frame {P : Program} {f : Nat} {args : List V} {K0 : V → Heap → Prop} (h0 : ACall P f args noG K0) (ha : args.all V.free = true) {h : Heap} {K : V → Heap → Prop}
 (hK : ∀ v h', K0 v h' → v.free = true ∧ K v h) : ACall P f args h K := by
 refine ⟨h0.1, fun E w vs hnl hs hv => ?_⟩
 simp only [List.all_eq_true] at ha
 let E0 : Env := { I := E.I, μ := E.μ, ng := 0, nl := 0 }
 have hs0 : Sim E0 (gst noG) w := ⟨rfl, rfl, fun k hk => absurd hk noG_live, hs.imm, fun k o hk => absurd ⟨o, hk⟩ noG_live, fun k k' hk => absurd hk noG_live, fun k hk => absurd hk noG_live⟩
 have hv0 : RelL E0 args vs := ⟨hv.1, fun j v x hj hx => free_rel (E := E) (F := E0) (fun b o x h => h) (ha v (List.mem_of_getElem? hj)) (hv.2 j v x hj hx)⟩
 refine (h0.2 E0 w vs rfl hs0 hv0).mono ?_
 rintro e w' ⟨v, x, h', E', hk, rfl, hn, hs', he, hr⟩
 obtain ⟨hfree, hkk⟩ := hK v h' hk
 have himm : ImmLe E.I E'.I := he.le.imm
 have hsame : ∀ k, (gst h).live k → w'.heap[(E.μ k).blk]? = w.heap[(E.μ k).blk]? := fun k hk => he.same _ (hs.lt hk) fun k0 hk0 => absurd hk0 noG_live
 have hle : E.Le { E with I := E'.I } := ⟨himm, Nat.le_refl _, Nat.le_refl _, fun _ _ => rfl⟩
 refine ⟨v, x, h, { E with I := E'.I }, hkk, rfl, hnl, ⟨hs.ng, hs.nl, fun k hk => hs.dom k hk, hs'.imm, fun k o hk => ?_, fun k k' hk hk' hne => hs.sep k k' hk hk' hne, fun k hk j h1 h2 => ?_⟩,
  ⟨hle, he.size, fun b o x hx => ?_, fun k hk _ => hk, fun k hk hn => absurd (hs.dom k hk) hn, fun b hb _ => he.same b hb fun k hk => absurd hk noG_live, he.os, he.out, he.tape⟩, free_rel (E := E') (F := { E with I := E'.I }) (fun b o x h => h) hfree hr⟩
 · exact (hs.obj k o hk).keep (Env.at_mono hle k) (hsame k ⟨o, hk⟩)
 · show E'.I (E.μ k).blk j = none
   cases hx : E'.I (E.μ k).blk j with
   | none => rfl
   | some y =>
     rcases he.immNew _ _ _ hx with h3 | h3 | ⟨k0, h3, _⟩
     · have := hs.own k hk j h1 h2
       rw [show E0.I = E.I from rfl, this] at h3
       cases h3
     · have := hs.lt hk
       omega
     · exact absurd h3 noG_live
 · rcases he.immNew b o x hx with h1 | h1 | ⟨k0, h1, _⟩
   · exact .inl h1
   · exact .inr (.inl h1)
   · exact absurd h1 noG_live
end Go.Eng
