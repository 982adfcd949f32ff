/-
Each operation of the model does what the abstract step says (part twelve: == of what is held in cells).
-/
import Derived.Test.YtfobkjdmohaakaaGreatEngOps11
import Derived.Laws.StructEq
import Derived.ChangeKeysEq
namespace Go.Eng
open Go

def rowSz (row : Bool) (ks : List CK) : Option Nat := if row then some ks.length else none
def eqFieldsLay (P : Program) (lay : TypeId → Option (Bool × List CK)) : List Field → Nat → Option (List CK)
  | [], _ => some []
  | f :: fs, acc => match lay f.type with
    | some (row, ks) => if f.name ≠ "_" ∧ f.offset = acc ∧ 0 < ks.length ∧ szOk P f.type (rowSz row ks) = true then
        (match eqFieldsLay P lay fs (acc + ks.length) with
        | some rest => some (ks ++ rest)
        | none => none)
      else none
    | none => none
/-- How values of a type are compared cell by cell: a row of cells or one, and as what. -/
def eqLay (P : Program) : Nat → TypeId → Option (Bool × List CK)
  | 0, _ => none
  | n + 1, t => match P.underlying t with
    | some .bool => some (false, [.b])
    | some (.int _) => some (false, [.i])
    | some .string => some (false, [.s])
    | some (.struct fs) => if P.stoodInHeld t = true then none else match eqFieldsLay P (eqLay P n) fs.toList 0 with
      | some ks => some (true, ks)
      | none => none
    | some (.array len e) => match eqLay P n e with
      | some (row, ks) => if (P.info? e).map (·.size) = some ks.length ∧ 0 < ks.length ∧ szOk P e (rowSz row ks) = true then some (true, (List.replicate len ks).flatten) else none
      | none => none
    | _ => none

theorem cellsEq_append : ∀ {k1 k2 : List CK} {cs ds : List V} {r : Bool}, cellsEq (k1 ++ k2) cs ds = some r →
    k1.length ≤ cs.length ∧ k1.length ≤ ds.length ∧ ∃ r1 r2, cellsEq k1 (cs.take k1.length) (ds.take k1.length) = some r1 ∧ cellsEq k2 (cs.drop k1.length) (ds.drop k1.length) = some r2 ∧ r = (r1 && r2)
  | [], k2, cs, ds, r, h => ⟨Nat.zero_le _, Nat.zero_le _, true, r, by simp [cellsEq], by simpa using h, by simp⟩
  | k :: k1, k2, cs, ds, r, h => by
    cases cs with
    | nil => simp [cellsEq] at h
    | cons c cs =>
    cases ds with
    | nil => simp [cellsEq] at h
    | cons d ds =>
    simp only [List.cons_append, cellsEq] at h
    split at h
    · rename_i a b ha hb
      simp only [Option.some.injEq] at h
      subst h
      obtain ⟨h1, h2, r1, r2, h3, h4, rfl⟩ := cellsEq_append hb
      refine ⟨by simp [h1], by simp [h2], a && r1, r2, by simp [cellsEq, ha, h3], by simpa using h4, by simp [Bool.and_assoc]⟩
    · cases h

section
variable {P : Program} {o : Oper} {a : Act} {E : Env} {N : Nat} {st : St} {w : World} {fr : Fr} {next : Act → World → Prop} {Q : Exit → Act → World → Prop} {K : R → Prop}

def EqOk (P : Program) (E : Env) (d : Nat) (lay : TypeId → Option (Bool × List CK)) : Prop :=
  ∀ (t : TypeId) (row : Bool) (ks : List CK), lay t = some (row, ks) → ∀ (w : World) (v u : V) (x y : Value) (cs ds : List V) (r : Bool), Rel E v x → Rel E u y → v.row row = some cs → u.row row = some ds → cellsEq ks cs ds = some r →
    (Op.equalIn d t x y).run P w = .ok r w

/-- One part of two rows. -/
theorem part_eq {d : Nat} {lay : TypeId → Option (Bool × List CK)} (IH : EqOk P E d lay) {t : TypeId} {row : Bool} {ks : List CK} (hl : lay t = some (row, ks)) (hz : szOk P t (rowSz row ks) = true) (h1k : row = false → ks.length = 1) (hpos : 0 < ks.length)
    {cs ds : List V} {xs ys : Array Value} (hx : RelL E cs xs) (hy : RelL E ds ys) (hx1 : ∀ (j : Nat) (x : Value), xs[j]? = some x → x.oneCell' = true) (hy1 : ∀ (j : Nat) (x : Value), ys[j]? = some x → x.oneCell' = true)
    {off : Nat} {r : Bool} (hlc : ks.length ≤ (cs.drop off).length) (hld : ks.length ≤ (ds.drop off).length) (hr : cellsEq ks ((cs.drop off).take ks.length) ((ds.drop off).take ks.length) = some r) (w : World) :
    ∃ x y, (part t xs off).run P w = .ok x w ∧ (part t ys off).run P w = .ok y w ∧ (Op.equalIn d t x y).run P w = .ok r w := by
  cases row with
  | true =>
    have hz : szOk P t (some ks.length) = true := hz
    have ldc : ∀ {l : List V}, ks.length ≤ (l.drop off).length → off ≤ l.length → ldCells l off (some ks.length) = some (.agg ((l.drop off).take ks.length)) := by
      intro l h h'
      simp only [ldCells]
      rw [if_pos (by simp at h; omega)]
    have ho1 : off ≤ cs.length := by rw [List.length_drop] at hlc; omega
    have ho2 : off ≤ ds.length := by rw [List.length_drop] at hld; omega
    obtain ⟨x, p1, q1⟩ := run_part (w := w) hz hx hx1 (ldc hlc ho1)
    obtain ⟨y, p2, q2⟩ := run_part (w := w) hz hy hy1 (ldc hld ho2)
    exact ⟨x, y, p1, p2, IH t true ks hl w _ _ x y _ _ r q1 q2 rfl rfl hr⟩
  | false =>
    have hz : szOk P t none = true := hz
    have h1 := h1k rfl
    obtain ⟨k, rfl⟩ : ∃ k, ks = [k] := by
      match ks, h1 with
      | [k], _ => exact ⟨k, rfl⟩
    simp only [List.length_singleton] at hr hlc hld
    have get : ∀ {l : List V}, 1 ≤ (l.drop off).length → ∃ c, l[off]? = some c ∧ (l.drop off).take 1 = [c] := by
      intro l h
      simp only [List.length_drop] at h
      have hlt : off < l.length := by omega
      refine ⟨l[off], by simp [hlt], ?_⟩
      rw [List.drop_eq_getElem_cons hlt]
      rfl
    obtain ⟨c, hc1, hc2⟩ := get hlc
    obtain ⟨d', hd1, hd2⟩ := get hld
    rw [hc2, hd2] at hr
    obtain ⟨x, p1, q1⟩ := run_part (w := w) hz hx hx1 hc1
    obtain ⟨y, p2, q2⟩ := run_part (w := w) hz hy hy1 hd1
    refine ⟨x, y, p1, p2, IH t false [k] hl w c d' x y [c] [d'] r q1 q2 ?_ ?_ hr⟩
    · cases c <;> first | rfl | (cases k <;> simp [cellsEq, cellEq] at hr)
    · cases d' <;> first | rfl | (cases k <;> cases c <;> simp [cellsEq, cellEq] at hr)

theorem lay_one {n : Nat} {t : TypeId} {ks : List CK} (h : eqLay P n t = some (false, ks)) : ks.length = 1 := by
  cases n with
  | zero => cases h
  | succ n =>
    unfold eqLay at h
    split at h
    · cases h; rfl
    · cases h; rfl
    · cases h; rfl
    · split at h
      · cases h
      · split at h <;> cases h
    · split at h
      · split at h <;> cases h
      · cases h
    · cases h

theorem fields_eq {d : Nat} {lay : TypeId → Option (Bool × List CK)} (IH : EqOk P E d lay) (h1k : ∀ t ks, lay t = some (false, ks) → ks.length = 1)
    {cs ds : List V} {xs ys : Array Value} (hx : RelL E cs xs) (hy : RelL E ds ys) (hx1 : ∀ (j : Nat) (x : Value), xs[j]? = some x → x.oneCell' = true) (hy1 : ∀ (j : Nat) (x : Value), ys[j]? = some x → x.oneCell' = true) :
    ∀ (fs : List Field) (acc : Nat) (ks : List CK) (r : Bool), eqFieldsLay P lay fs acc = some ks → cellsEq ks (cs.drop acc) (ds.drop acc) = some r → ∀ w, (Op.eqFields d xs ys fs).run P w = .ok r w
  | [], acc, ks, r, h, hr, w => by
    simp only [eqFieldsLay, Option.some.injEq] at h
    subst h
    have : r = true := by
      cases hc : cs.drop acc <;> cases hd : ds.drop acc <;> rw [hc, hd] at hr <;> simp [cellsEq] at hr
      exact hr
    subst this
    simp [Op.eqFields]
  | f :: fs, acc, ks, r, h, hr, w => by
    simp only [eqFieldsLay] at h
    split at h
    case h_2 => cases h
    rename_i row k1 hl
    split at h
    case isFalse => cases h
    rename_i hc
    obtain ⟨c1, c2, c3, c4⟩ := hc
    split at h
    case h_2 => cases h
    rename_i rest hrest
    simp only [Option.some.injEq] at h
    subst h
    obtain ⟨l1, l2, r1, r2, e1, e2, rfl⟩ := cellsEq_append hr
    obtain ⟨x, y, p1, p2, p3⟩ := part_eq IH hl c4 (fun hrow => h1k _ _ (by rw [← hrow]; exact hl)) c3 hx hy hx1 hy1 l1 l2 e1 w
    rw [List.drop_drop, List.drop_drop] at e2
    have ih := fields_eq IH h1k hx hy hx1 hy1 fs (acc + k1.length) rest r2 hrest e2 w
    simp only [Op.eqFields]
    rw [if_pos c1, c2]
    simp only [Sem.run_bind, p1, p2, p3, Result.andThen_ok]
    cases r1
    · simp
    · simpa using ih

theorem items_eq {d : Nat} {lay : TypeId → Option (Bool × List CK)} (IH : EqOk P E d lay) {e : TypeId} {row : Bool} {k1 : List CK} (hl : lay e = some (row, k1)) (h1k : row = false → k1.length = 1) (hpos : 0 < k1.length)
    (hz : szOk P e (rowSz row k1) = true)
    {cs ds : List V} {xs ys : Array Value} (hx : RelL E cs xs) (hy : RelL E ds ys) (hx1 : ∀ (j : Nat) (x : Value), xs[j]? = some x → x.oneCell' = true) (hy1 : ∀ (j : Nat) (x : Value), ys[j]? = some x → x.oneCell' = true) :
    ∀ (m i : Nat) (r : Bool), cellsEq (List.replicate m k1).flatten (cs.drop (i * k1.length)) (ds.drop (i * k1.length)) = some r → ∀ w, (Op.eqItems d e k1.length xs ys (List.range' i m)).run P w = .ok r w
  | 0, i, r, hr, w => by
    have : r = true := by
      cases hc : cs.drop (i * k1.length) <;> cases hd : ds.drop (i * k1.length) <;> rw [hc, hd] at hr <;> simp [cellsEq] at hr
      exact hr
    subst this
    simp [Op.eqItems]
  | m + 1, i, r, hr, w => by
    rw [List.replicate_succ, List.flatten_cons] at hr
    obtain ⟨l1, l2, r1, r2, e1, e2, rfl⟩ := cellsEq_append hr
    obtain ⟨x, y, p1, p2, p3⟩ := part_eq IH hl hz h1k hpos hx hy hx1 hy1 l1 l2 e1 w
    rw [List.drop_drop, List.drop_drop, ← Nat.succ_mul] at e2
    have ih := items_eq IH hl h1k hpos hz hx hy hx1 hy1 m (i + 1) r2 e2 w
    rw [List.range'_succ]
    simp only [Op.eqItems, Sem.run_bind, p1, p2, p3, Result.andThen_ok]
    cases r1
    · simp
    · simpa using ih

theorem eqLay_ok (d : Nat) : ∀ n, EqOk P E (d + n) (eqLay P n)
  | 0 => fun t row ks h => by cases h
  | n + 1 => fun t row ks h w v u x y cs ds r hv hu hcs hds hr => by
    unfold eqLay at h
    rw [show d + (n + 1) = (d + n) + 1 from rfl]
    split at h
    · rename_i hut
      cases h
      cases hcs' : v <;> rw [hcs'] at hcs <;> simp [V.row] at hcs <;> subst hcs
      all_goals (cases hds' : u <;> rw [hds'] at hds <;> simp [V.row] at hds <;> subst hds)
      all_goals (simp [cellsEq, cellEq] at hr)
      subst hcs'; subst hds'; subst hr
      rw [hv.bool, hu.bool, run_equalIn_bool w _ t _ _ hut]
    · rename_i k hut
      cases h
      cases hcs' : v <;> rw [hcs'] at hcs <;> simp [V.row] at hcs <;> subst hcs
      all_goals (cases hds' : u <;> rw [hds'] at hds <;> simp [V.row] at hds <;> subst hds)
      all_goals (simp [cellsEq, cellEq] at hr)
      rename_i k1 n1 k2 n2
      subst hcs'; subst hds'
      by_cases hk : k1 = k2
      · subst hk
        simp at hr
        subst hr
        rw [hv.int, hu.int, run_equalIn_int w _ t k1 k _ _ hut]
        rfl
      · simp [hk] at hr
    · rename_i hut
      cases h
      cases hcs' : v <;> rw [hcs'] at hcs <;> simp [V.row] at hcs <;> subst hcs
      all_goals (cases hds' : u <;> rw [hds'] at hds <;> simp [V.row] at hds <;> subst hds)
      all_goals (simp [cellsEq, cellEq] at hr)
      subst hcs'; subst hds'; subst hr
      rw [hv.strv, hu.strv, run_equalIn_string w _ t _ _ hut, str_toList, str_toList]
    · rename_i fs hut
      split at h
      · cases h
      rename_i hst
      split at h
      case h_2 => cases h
      rename_i k1 hk1
      simp only [Option.some.injEq, Prod.mk.injEq] at h
      obtain ⟨rfl, rfl⟩ := h
      cases hcs' : v <;> rw [hcs'] at hcs <;> simp [V.row] at hcs
      subst hcs
      cases hds' : u <;> rw [hds'] at hds <;> simp [V.row] at hds
      subst hds
      subst hcs'; subst hds'
      cases hv with
      | deep hd => cases hd
      | agg _ xs hx1 hx2 hx3 =>
      cases hu with
      | deep hd => cases hd
      | agg _ ys hy1 hy2 hy3 =>
      have hfs : P.fieldsOf t = fs := by simp [Program.fieldsOf, hut]
      rw [run_equalIn_struct w (d + n) t xs ys (by rw [hfs]; exact hut) (by simpa using hst), hfs]
      exact fields_eq (eqLay_ok d n) (fun _ _ => lay_one) ⟨hx1, hx3⟩ ⟨hy1, hy3⟩ hx2 hy2 fs.toList 0 _ r hk1 (by simpa using hr) w
    · rename_i len e hut
      split at h
      case h_2 => cases h
      rename_i row' k1 hk1
      split at h
      case isFalse => cases h
      rename_i hc
      obtain ⟨c1, c2, c3⟩ := hc
      simp only [Option.some.injEq, Prod.mk.injEq] at h
      obtain ⟨rfl, rfl⟩ := h
      cases hcs' : v <;> rw [hcs'] at hcs <;> simp [V.row] at hcs
      subst hcs
      cases hds' : u <;> rw [hds'] at hds <;> simp [V.row] at hds
      subst hds
      subst hcs'; subst hds'
      cases hv with
      | deep hd => cases hd
      | agg _ xs hx1 hx2 hx3 =>
      cases hu with
      | deep hd => cases hd
      | agg _ ys hy1 hy2 hy3 =>
      cases hq : P.info? e with
      | none => simp [hq] at c1
      | some i =>
      have hcell : P.cellsOf e = k1.length := by
        simp [hq] at c1
        simp [Program.cellsOf, hq, c1]
      rw [run_equalIn_array w (d + n) xs ys hut hq, hcell, List.range_eq_range']
      exact items_eq (eqLay_ok d n) hk1 (fun hrow => lay_one (by rw [← hrow]; exact hk1)) c2 c3 ⟨hx1, hx3⟩ ⟨hy1, hy3⟩ hx2 hy2 len 0 r (by simpa using hr) w
    · cases h

def eqcOk (P : Program) (t : TypeId) (row : Bool) (ks : List CK) : Bool :=
  decide (eqLay P 20 t = some (row, ks)) && !P.eqGuardType P.depth t && (row || decide (ks = [.b]))

theorem T.opt_wp {α β : Type} {A : CallP} {o : Option α} {k : α → T β} {K : β → Prop} (h : (T.opt o k).wp A K) : ∃ x, o = some x ∧ (k x).wp A K := by
  unfold T.opt at h
  cases o with
  | none => exact h.elim
  | some x => exact ⟨x, rfl, h⟩

theorem step_eqc {op : BinOp} {t yt : TypeId} {x y : Operand} {d e : Opd} {row neg : Bool} {ks : List CK} (ho : o.op = .binOp op t x y yt) (hop : op = if neg then .neq else .eql) (hx : okX x d = true) (hy : okX y e = true) (hn : eqcOk P t row ks = true)
    (hs : Sim E st w) (hf : FrRel E N fr a) (hw : (step (.eqc row ks neg d e) fr st).wp (ACall P) K) (hc : Cont E st w o a next K) : o.wp P a w next Q := by
  have r1 := okX_rel hx hf
  have r2 := okX_rel hy hf
  unfold eqcOk at hn
  simp only [Bool.and_eq_true, decide_eq_true_eq, Bool.not_eq_true', Bool.or_eq_true] at hn
  obtain ⟨⟨hn, hgt⟩, hone⟩ := hn
  simp only [step] at hw
  obtain ⟨cs, hcs, hw⟩ := T.opt_wp hw
  obtain ⟨ds, hds, hw⟩ := T.opt_wp hw
  obtain ⟨r, hr, hw⟩ := T.opt_wp hw
  have h := eqLay_ok (E := E) (P := P) 9980 20 t row ks hn w _ _ _ _ cs ds r r1 r2 hcs hds hr
  have h : (Op.equal t (a.eval x) (a.eval y)).run P w = .ok r w := h
  have hk : K (.b (if neg then !r else r), st) := by cases neg <;> exact hw
  have fin : (eqGuard op t x y (a.eval x) (a.eval y)).run P w = .ok () w → (binOp op t (a.eval x) (a.eval y)).run P w = .ok (.bool (if neg then !r else r)) w → o.wp P a w next Q := by
    intro h1 h2
    exact wp_val (x := .bool (if neg then !r else r)) (by simp [execOp, ho, h1, h2]) (hc.same hs hk (.deep (.b _)))
  cases row with
  | true =>
    have hv : ∃ c, d.ev fr = .agg c := by
      cases hq : d.ev fr <;> rw [hq] at hcs <;> simp [V.row] at hcs
      exact ⟨_, rfl⟩
    have hu : ∃ c, e.ev fr = .agg c := by
      cases hq : e.ev fr <;> rw [hq] at hds <;> simp [V.row] at hds
      exact ⟨_, rfl⟩
    obtain ⟨c1, hv⟩ := hv
    obtain ⟨c2, hu⟩ := hu
    rw [hv] at r1
    rw [hu] at r2
    generalize hx2 : a.eval x = x' at r1 fin h
    generalize hy2 : a.eval y = y' at r2 fin h
    cases r1 with
    | deep hd => cases hd
    | agg _ xs =>
    cases r2 with
    | deep hd => cases hd
    | agg _ ys =>
    refine fin (run_eqGuard_agg w op t x y xs ys hgt) ?_
    have h : (Op.equalIn 10000 t (.agg xs) (.agg ys)).run P w = .ok r w := h
    subst hop
    cases neg with
    | true => simp only [if_true]; rw [run_neq_struct, h]; rfl
    | false => simp only [Bool.false_eq_true, if_false]; rw [run_eql_struct, h]; rfl
  | false =>
    have hks : ks = [.b] := by simpa using hone
    subst hks
    have hv : ∃ b, d.ev fr = .b b := by
      cases hq : d.ev fr <;> rw [hq] at hcs <;> simp [V.row] at hcs <;> subst hcs
      all_goals (cases ds with
        | nil => simp [cellsEq] at hr
        | cons q qs => cases q <;> first | exact ⟨_, rfl⟩ | simp [cellsEq, cellEq] at hr)
    have hu : ∃ b, e.ev fr = .b b := by
      cases hq : e.ev fr <;> rw [hq] at hds <;> simp [V.row] at hds <;> subst hds
      all_goals (cases cs with
        | nil => simp [cellsEq] at hr
        | cons q qs => cases q <;> first | exact ⟨_, rfl⟩ | simp [cellsEq, cellEq] at hr)
    obtain ⟨b1, hv⟩ := hv
    obtain ⟨b2, hu⟩ := hu
    rw [hv] at r1
    rw [hu] at r2
    have r1 := r1.bool
    have r2 := r2.bool
    rw [r1, r2] at h
    refine fin (by rw [r1, eqGuard_at_bool]; rfl) ?_
    rw [r1, r2]
    subst hop
    cases neg <;> simp [binOp, h]
end
end Go.Eng
