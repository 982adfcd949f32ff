/-
Each operation of the model does what the abstract step says (part two: arithmetic, comparisons, places, lengths).
-/
import Derived.Test.YtfobkjdmohaakaaGreatEngOps
namespace Go.Eng
open Go
section
variable {P : Program} {o : Oper} {a : Act} {E : Env} {N : Nat} {st : St} {w : World} {fr : Fr} {next : Act → World → Prop} {Q : Exit → Act → World → Prop} {K : R → Prop}

theorem exec_bin {op : BinOp} {t yt : TypeId} {x y : Operand} {v : Value} (ho : o.op = .binOp op t x y yt) (hg : eqGuard op t x y (a.eval x) (a.eval y) = pure ())
    (h : (binOp op t (a.eval x) (a.eval y)).run P w = .ok v w) : (execOp a.eval o).run P w = .ok (.value v) w := by
  simp [execOp, ho, hg, h]

theorem ba_loop (bs : ByteArray) : ∀ (n i : Nat) (r : List UInt8), bs.size - i = n → ByteArray.toList.loop bs i r = r.reverse ++ bs.data.toList.drop i := by
  intro n
  induction n with
  | zero =>
    intro i r h
    unfold ByteArray.toList.loop
    rw [if_neg (by omega)]
    have : bs.data.toList.drop i = [] := List.drop_eq_nil_of_le (by simp; have : bs.size = bs.data.size := rfl; omega)
    rw [this, List.append_nil]
  | succ n ih =>
    intro i r h
    unfold ByteArray.toList.loop
    have hlt : i < bs.size := by omega
    rw [if_pos hlt, ih (i + 1) _ (by omega)]
    have hlt' : i < bs.data.toList.length := by simpa using hlt
    rw [List.drop_eq_getElem_cons hlt']
    have : bs.get! i = bs.data.toList[i] := by
      have : i < bs.data.size := hlt
      simp only [ByteArray.get!, Array.getElem_toList]
      exact getElem!_pos bs.data i this
    rw [this]
    simp
theorem ba_toList (bs : ByteArray) : bs.toList = bs.data.toList := by
  unfold ByteArray.toList
  rw [ba_loop bs _ 0 [] rfl]
  simp

theorem str_toList (l : List UInt8) : (str l).toList = l := by rw [ba_toList]; rfl

theorem step_bin {op : BinOp} {t yt : TypeId} {x y : Operand} {d e : Opd} (ho : o.op = .binOp op t x y yt) (hx : okX x d = true) (hy : okX y e = true) (hs : Sim E st w) (hf : FrRel E N fr a)
    (hw : (step (.bin op d e) fr st).wp (ACall P) K) (hc : Cont E st w o a next K) : o.wp P a w next Q := by
  have h1 := okX_rel hx hf
  have h2 := okX_rel hy hf
  simp only [step, stepBin] at hw
  split at hw
  · rename_i k p k' q e1 e2
    rw [e1] at h1
    rw [e2] at h2
    have h1 := h1.int
    have h2 := h2.int
    have hg : eqGuard op t x y (a.eval x) (a.eval y) = pure () := by rw [h1]; exact eqGuard_at_int _ _ _ _ _ _ _
    cases op
    case shl =>
      obtain ⟨hq, hw⟩ := hw
      have hq : 0 ≤ q := by simpa using hq
      rw [T.wp, wWrap_iff] at hw
      exact wp_val (exec_bin ho hg (by rw [h1, h2, binOp_shl]; simp [Op.shift, show ¬ q < 0 by omega])) (hc.same hs hw (.deep (.i _ _)))
    case shr =>
      obtain ⟨hq, hw⟩ := hw
      have hq : 0 ≤ q := by simpa using hq
      exact wp_val (exec_bin ho hg (by rw [h1, h2, binOp_shr]; simp [Op.shift, show ¬ q < 0 by omega])) (hc.same hs hw (.deep (.i _ _)))
    all_goals
      simp only at hw
      split at hw
      · rename_i hk
        subst hk
        first
          | (rw [T.wp, wWrap_iff] at hw
             exact wp_val (exec_bin ho hg (by rw [h1, h2]; simp [binOp, Op.intArith])) (hc.same hs hw (.deep (.i _ _))))
          | (obtain ⟨hq, hw⟩ := hw
             have hq : ¬ q = 0 := by simpa using hq
             rw [T.wp, wWrap_iff] at hw
             exact wp_val (exec_bin ho hg (by rw [h1, h2]; simp [binOp, Op.intDiv, hq])) (hc.same hs hw (.deep (.i _ _))))
          | (obtain ⟨hq, hw⟩ := hw
             have hq : ¬ q = 0 := by simpa using hq
             exact wp_val (exec_bin ho hg (by rw [h1, h2]; simp [binOp, Op.intDiv, hq])) (hc.same hs hw (.deep (.i _ _))))
          | exact wp_val (exec_bin ho hg (by rw [h1, h2]; simp [binOp, Op.intBits])) (hc.same hs hw (.deep (.i _ _)))
          | exact wp_val (exec_bin ho hg (by rw [h1, h2]; simp [binOp, Op.intCmp] <;> rfl)) (hc.same hs hw (.deep (.b _)))
      · exact hw.elim
  · rename_i p q e1 e2
    rw [e1] at h1
    rw [e2] at h2
    have h1 := h1.strv
    have h2 := h2.strv
    have hg : eqGuard op t x y (a.eval x) (a.eval y) = pure () := by rw [h1]; exact eqGuard_at_string _ _ _ _ _ _
    have hsz : ∀ l, (str l).size = l.length := fun l => by simp [str, ByteArray.size]
    cases op
    case add =>
      obtain ⟨hq, hw⟩ := hw
      have hq : ((p.length + q.length : Nat) : Int) ≤ 9223372036854775807 := by simpa using hq
      refine wp_val (x := .string (str (p ++ q))) (exec_bin ho hg ?_) (hc.same hs hw (.deep (.s _)))
      rw [h1, h2]
      simp only [binOp, Op.stringOp, hsz, IntKind.max_i64]
      rw [if_neg (by omega)]
      have : str p ++ str q = str (p ++ q) := by
        apply ByteArray.ext
        simp [str]
      rw [this]; rfl
    case eql => exact wp_val (exec_bin ho hg (by rw [h1, h2]; simp [binOp, Op.stringOp, str_toList])) (hc.same hs hw (.deep (.b _)))
    case neq => exact wp_val (exec_bin ho hg (by rw [h1, h2]; simp [binOp, Op.stringOp, str_toList])) (hc.same hs hw (.deep (.b _)))
    case lss => exact wp_val (exec_bin ho hg (by rw [h1, h2]; simp [binOp, Op.stringOp, str_toList])) (hc.same hs hw (.deep (.b _)))
    case leq => exact wp_val (exec_bin ho hg (by rw [h1, h2]; simp [binOp, Op.stringOp, str_toList])) (hc.same hs hw (.deep (.b _)))
    case gtr => exact wp_val (exec_bin ho hg (by rw [h1, h2]; simp [binOp, Op.stringOp, str_toList])) (hc.same hs hw (.deep (.b _)))
    case geq => exact wp_val (exec_bin ho hg (by rw [h1, h2]; simp [binOp, Op.stringOp, str_toList])) (hc.same hs hw (.deep (.b _)))
    all_goals exact hw.elim
  · exact hw.elim

theorem step_un {op : UnOp} {t : TypeId} {x : Operand} {d : Opd} (ho : o.op = .unOp op t x) (hx : okX x d = true) (hs : Sim E st w) (hf : FrRel E N fr a)
    (hw : (step (.un op d) fr st).wp (ACall P) K) (hc : Cont E st w o a next K) : o.wp P a w next Q := by
  have h1 := okX_rel hx hf
  simp only [step] at hw
  split at hw
  · rename_i y e1
    rw [e1] at h1
    have h1 := h1.bool
    exact wp_val (x := .bool (!y)) (by simp [execOp, ho, h1, Op.unary]) (hc.same hs hw (.deep (.b _)))
  · rename_i k n e1
    rw [e1] at h1
    have h1 := h1.int
    rw [T.wp, wWrap_iff] at hw
    exact wp_val (x := .int k (k.wrap (0 - n))) (by simp [execOp, ho, h1, Op.unary, Op.intArith]) (hc.same hs hw (.deep (.i _ _)))
  · exact hw.elim

theorem step_cvi {s t : TypeId} {k : IntKind} {x : Operand} {d : Opd} (ho : o.op = .convert s t x) (hx : okX x d = true) (hu : (P.underlying s).isSome = true) (ht : P.underlying t = some (.int k))
    (hs : Sim E st w) (hf : FrRel E N fr a) (hw : (step (.cvi k d) fr st).wp (ACall P) K) (hc : Cont E st w o a next K) : o.wp P a w next Q := by
  have h1 := okX_rel hx hf
  simp only [step] at hw
  split at hw
  · rename_i k' n e1
    rw [e1] at h1
    have h1 := h1.int
    rw [T.wp, wWrap_iff] at hw
    obtain ⟨du, hdu⟩ := Option.isSome_iff_exists.1 hu
    refine wp_val (x := .int k (k.wrap n)) ?_ (hc.same hs hw (.deep (.i _ _)))
    simp [execOp, ho, h1, convert, run_underlying hdu, run_underlying ht, Conv.intToInt]
  · exact hw.elim

theorem step_cvs {s t : TypeId} {x : Operand} {d : Opd} (ho : o.op = .convert s t x) (hx : okX x d = true) (hu : (P.underlying s).isSome = true) (ht : P.underlying t = some .string)
    (hs : Sim E st w) (hf : FrRel E N fr a) (hw : (step (.cvs d) fr st).wp (ACall P) K) (hc : Cont E st w o a next K) : o.wp P a w next Q := by
  have h1 := okX_rel hx hf
  simp only [step] at hw
  split at hw
  · rename_i y e1
    rw [e1] at h1
    have h1 := h1.strv
    obtain ⟨du, hdu⟩ := Option.isSome_iff_exists.1 hu
    refine wp_val (x := .string (str y)) ?_ (hc.same hs hw (.deep (.s _)))
    simp [execOp, ho, h1, convert, run_underlying hdu, run_underlying ht]
  · exact hw.elim

theorem step_nilc {x : Operand} {d : Opd} (ho : o.op = .nilCheck x) (hx : okX x d = true) (hs : Sim E st w) (hf : FrRel E N fr a)
    (hw : (step (.nilc d) fr st).wp (ACall P) K) (hc : Cont E st w o a next K) : o.wp P a w next Q := by
  have h1 := okX_rel hx hf
  simp only [step] at hw
  split at hw
  case h_5 => exact hw.elim
  all_goals
    rename_i e1
    rw [e1] at h1
    refine wp_val (x := a.eval x) ?_ (hc.same hs hw h1)
    generalize hy : a.eval x = y at h1
    cases h1 <;> first | (rename_i hd; cases hd) | simp [execOp, ho, hy]

theorem step_faddr {t : TypeId} {x : Operand} {f : Nat} {d : Opd} {fs : Array Field} {fl : Field} {off : Nat} (ho : o.op = .fieldAddr t x f) (hx : okX x d = true)
    (hu : P.underlying t = some (.struct fs)) (hfl : fs[f]? = some fl) (hoff : fl.offset = off) (hz : ∃ i, P.info? fl.type = some i ∧ i.size ≠ 0)
    (hs : Sim E st w) (hf : FrRel E N fr a) (hw : (step (.faddr off d) fr st).wp (ACall P) K) (hc : Cont E st w o a next K) : o.wp P a w next Q := by
  have h1 := okX_rel hx hf
  subst hoff
  obtain ⟨i, hi, hi0⟩ := hz
  have hrun : ∀ b c, a.eval x = .pointer (some ⟨b, c, none⟩) → (execOp a.eval o).run P w = .ok (.value (.pointer (some ⟨b, c + fl.offset, none⟩))) w := by
    intro b c hb
    simp [execOp, ho, hb, Instr.fieldAt, run_underlying hu, hfl, Instr.sureAddr, fieldPlace, sizeOf, typeInfo, hi, hi0, Addr.add_lit]
  simp only [step] at hw
  split at hw
  · rename_i k c e1
    rw [e1] at h1
    generalize hy : a.eval x = y at h1
    cases h1 with
    | deep hd => cases hd
    | p _ _ hk =>
      refine wp_val (hrun _ _ hy) (hc.same hs hw ?_)
      rw [Nat.add_assoc]; exact .p _ _ hk
  · rename_i k sz ix c e1
    rw [e1] at h1
    generalize hy : a.eval x = y at h1
    cases h1 with
    | deep hd => cases hd
    | pa _ _ _ _ hk =>
      refine wp_val (hrun _ _ hy) (hc.same hs hw ?_)
      rw [Nat.add_assoc]; exact .pa _ _ _ _ hk
  · rename_i cs c e1
    rw [e1] at h1
    generalize hy : a.eval x = y at h1
    cases h1 with
    | deep hd => cases hd
    | pc _ _ blk c0 val hv hr =>
      refine wp_val (hrun _ _ hy) (hc.same hs hw ?_)
      rw [Nat.add_assoc]; exact .pc _ _ _ _ val hv hr
  · exact hw.elim

theorem CellsOf_get {cs : List V} {off n : Nat} {v : V} (h : ldCells cs off (some n) = some v) : off + n ≤ cs.length ∧ v = .agg ((cs.drop off).take n) := by
  simp only [ldCells] at h
  split at h
  · rename_i hl; exact ⟨hl, (Option.some.inj h).symm⟩
  · cases h

/-- A row type or a plain one. -/
def szOk (P : Program) (t : TypeId) (n : Option Nat) : Bool :=
  match n, P.underlying t with
  | none, some d => !d.isRow
  | some k, some d => d.isRow && (P.info? t).map (·.size) == some k
  | _, none => false
theorem run_isAgg {t : TypeId} {d : TypeDesc} (h : P.underlying t = some d) (w : World) : (isAgg t).run P w = .ok d.isRow w := by
  unfold isAgg
  rw [Sem.run_bind, run_underlying h w]
  cases d <;> rfl
/-- A part of a value's cells. -/
theorem run_part {t : TypeId} {n : Option Nat} (hn : szOk P t n = true) {cs : List V} {xs : Array Value} (hr : RelL E cs xs) (h1 : ∀ (j : Nat) (x : Value), xs[j]? = some x → x.oneCell' = true)
    {off : Nat} {v : V} (hv : ldCells cs off n = some v) : ∃ x, (part t xs off).run P w = .ok x w ∧ Rel E v x := by
  unfold szOk at hn
  split at hn
  · rename_i d hd
    obtain ⟨x, hx, hrx⟩ := hr.get hv
    refine ⟨x, ?_, hrx⟩
    have : d.isRow = false := by simpa using hn
    simp [part, run_isAgg hd, this, hx]
  · rename_i k d hd
    simp only [Bool.and_eq_true, beq_iff_eq] at hn
    obtain ⟨hl, rfl⟩ := CellsOf_get hv
    cases hq : P.info? t with
    | none => simp [hq] at hn
    | some i =>
      have hs : i.size = k := by simpa [hq] using hn.2
      refine ⟨.agg (xs.extract off (off + k)), ?_, ?_⟩
      · simp [part, run_isAgg hd, hn.1, sizeOf, typeInfo, hq, hs]
      · have hsz := hr.1
        refine .agg _ _ ?_ ?_ ?_
        · simp only [Array.size_extract, List.length_take, List.length_drop]; omega
        · intro j x hx
          rw [Array.getElem?_extract] at hx
          split at hx
          · exact h1 _ _ hx
          · cases hx
        · intro j u x hj hx
          rw [Array.getElem?_extract] at hx
          rw [List.getElem?_take] at hj
          split at hj
          · split at hx
            · rw [List.getElem?_drop] at hj
              exact hr.2 _ u x hj hx
            · cases hx
          · cases hj
  · cases hn

theorem step_fld {t : TypeId} {x : Operand} {f : Nat} {d : Opd} {fs : Array Field} {fl : Field} {off : Nat} {n : Option Nat} (ho : o.op = .field t x f) (hx : okX x d = true)
    (hu : P.underlying t = some (.struct fs)) (hfl : fs[f]? = some fl) (hoff : fl.offset = off) (hz : szOk P fl.type n = true)
    (hs : Sim E st w) (hf : FrRel E N fr a) (hw : (step (.fld off n d) fr st).wp (ACall P) K) (hc : Cont E st w o a next K) : o.wp P a w next Q := by
  have h1 := okX_rel hx hf
  subst hoff
  simp only [step] at hw
  split at hw
  · rename_i cs e1
    rw [e1] at h1
    generalize hy : a.eval x = y at h1
    cases h1 with
    | deep hd => cases hd
    | agg _ b hb ho1 hrb =>
      unfold T.opt at hw
      split at hw
      · rename_i v hv
        obtain ⟨z, hz1, hz2⟩ := run_part (w := w) hz ⟨hb, hrb⟩ ho1 hv
        exact wp_val (x := z) (by simp [execOp, ho, hy, Instr.field, run_underlying hu, hfl, asAgg, hz1]) (hc.same hs hw hz2)
      · exact hw.elim
  · exact hw.elim

theorem idxOk_iff {i : Int} {n : Nat} : idxOk i n = true ↔ 0 ≤ i ∧ i < n := by simp [idxOk]

theorem step_iaar {t e : TypeId} {x y : Operand} {d c : Opd} {len sz : Nat} (ho : o.op = .indexAddr t x y) (hx : okX x d = true) (hy : okX y c = true)
    (hu : P.underlying t = some (.array len e)) (hz : (P.info? e).map (·.size) = some sz)
    (hs : Sim E st w) (hf : FrRel E N fr a) (hw : (step (.iaar len sz d c) fr st).wp (ACall P) K) (hc : Cont E st w o a next K) : o.wp P a w next Q := by
  have h1 := okX_rel hx hf
  have h2 := okX_rel hy hf
  cases hq : P.info? e with
  | none => simp [hq] at hz
  | some i =>
  have hi : i.size = sz := by simpa [hq] using hz
  simp only [step] at hw
  split at hw
  · rename_i k n e2
    rw [e2] at h2
    have h2 := h2.int
    obtain ⟨hix, hw⟩ := hw
    rw [idxOk_iff] at hix
    have hrun : ∀ b c, a.eval x = .pointer (some ⟨b, c, none⟩) → (execOp a.eval o).run P w = .ok (.value (.pointer (some ⟨b, c + n.toNat * sz, none⟩))) w := by
      intro b c hb
      simp [execOp, ho, hb, h2, Instr.indexAt, asIntOf, run_underlying hu, Instr.sureAddr, sizeOf, typeInfo, hq, hi, hix.1, hix.2, Addr.add_lit]
    split at hw
    · rename_i k c e1
      rw [e1] at h1
      generalize hy : a.eval x = y at h1
      cases h1 with
      | deep hd => cases hd
      | p _ _ hk =>
        refine wp_val (hrun _ _ hy) (hc.same hs hw ?_)
        rw [Nat.add_assoc]; exact .p _ _ hk
    · rename_i k sz ix c e1
      rw [e1] at h1
      generalize hy : a.eval x = y at h1
      cases h1 with
      | deep hd => cases hd
      | pa _ _ _ _ hk =>
        refine wp_val (hrun _ _ hy) (hc.same hs hw ?_)
        rw [Nat.add_assoc]; exact .pa _ _ _ _ hk
    · rename_i cs c e1
      rw [e1] at h1
      generalize hy : a.eval x = y at h1
      cases h1 with
      | deep hd => cases hd
      | pc _ _ blk c0 val hv hr =>
        refine wp_val (hrun _ _ hy) (hc.same hs hw ?_)
        rw [Nat.add_assoc]; exact .pc _ _ _ _ val hv hr
    · exact hw.elim
  · exact hw.elim

theorem step_ixs {t : TypeId} {x y : Operand} {d c : Opd} (ho : o.op = .index t x y) (hx : okX x d = true) (hy : okX y c = true) (hu : P.underlying t = some .string)
    (hs : Sim E st w) (hf : FrRel E N fr a) (hw : (step (.ixs d c) fr st).wp (ACall P) K) (hc : Cont E st w o a next K) : o.wp P a w next Q := by
  have h1 := okX_rel hx hf
  have h2 := okX_rel hy hf
  simp only [step] at hw
  split at hw
  · rename_i l k n e1 e2
    rw [e1] at h1
    rw [e2] at h2
    have h1 := h1.strv
    have h2 := h2.int
    obtain ⟨h0, b, hb, hw⟩ := hw
    have h0 : 0 ≤ n := by simpa using h0
    refine wp_val (x := .int .u8 b.toNat) ?_ (hc.same hs hw (.deep (.i _ _)))
    have : (str l)[n.toNat]? = some b := by
      have hlt := (List.getElem?_eq_some_iff.1 hb)
      obtain ⟨hlt, he⟩ := hlt
      have hsz : (str l).size = l.length := by simp [str, ByteArray.size]
      rw [getElem?_pos (str l) n.toNat (by rw [hsz]; exact hlt)]
      simp only [← he]
      rfl
    simp [execOp, ho, h1, h2, Instr.index, asIntOf, run_underlying hu, h0, this]
  · exact hw.elim

theorem step_ixa {t e : TypeId} {x y : Operand} {d c : Opd} {len sz : Nat} {n : Option Nat} (ho : o.op = .index t x y) (hx : okX x d = true) (hy : okX y c = true)
    (hu : P.underlying t = some (.array len e)) (hz : (P.info? e).map (·.size) = some sz) (hn : szOk P e n = true)
    (hs : Sim E st w) (hf : FrRel E N fr a) (hw : (step (.ixa len sz n d c) fr st).wp (ACall P) K) (hc : Cont E st w o a next K) : o.wp P a w next Q := by
  have h1 := okX_rel hx hf
  have h2 := okX_rel hy hf
  cases hq : P.info? e with
  | none => simp [hq] at hz
  | some i =>
  have hi : i.size = sz := by simpa [hq] using hz
  simp only [step] at hw
  split at hw
  · rename_i cs k j e1 e2
    rw [e1] at h1
    rw [e2] at h2
    have h2 := h2.int
    generalize hy : a.eval x = y at h1
    cases h1 with
    | deep hd => cases hd
    | agg _ b hb ho1 hrb =>
      obtain ⟨hix, hw⟩ := hw
      rw [idxOk_iff] at hix
      unfold T.opt at hw
      split at hw
      · rename_i v hv
        obtain ⟨z, hz1, hz2⟩ := run_part (w := w) hn ⟨hb, hrb⟩ ho1 hv
        exact wp_val (x := z) (by simp [execOp, ho, hy, h2, Instr.index, asIntOf, run_underlying hu, hix.1, hix.2, sizeOf, typeInfo, hq, hi, hz1]) (hc.same hs hw hz2)
      · exact hw.elim
  · exact hw.elim

theorem step_ext {x : Operand} {d : Opd} {i : Nat} (ho : o.op = .extract x i) (hx : okX x d = true)
    (hs : Sim E st w) (hf : FrRel E N fr a) (hw : (step (.ext d i) fr st).wp (ACall P) K) (hc : Cont E st w o a next K) : o.wp P a w next Q := by
  have h1 := okX_rel hx hf
  simp only [step] at hw
  split at hw
  · rename_i vs e1
    rw [e1] at h1
    generalize hy : a.eval x = y at h1
    cases h1 with
    | deep hd => cases hd
    | tup _ b hb hrb =>
      unfold T.opt at hw
      split at hw
      · rename_i v hv
        obtain ⟨z, hz1, hz2⟩ := RelL.get ⟨hb, hrb⟩ hv
        exact wp_val (x := z) (by simp [execOp, ho, hy, Instr.extract, hz1]) (hc.same hs hw hz2)
      · exact hw.elim
  · exact hw.elim

theorem step_mkfn {f : Nat} {first cap : Array Operand} {ds : List Opd} (ho : o.op = .makeFunc (.func f) first cap) (h0 : first.size = 0) (hx : okXs cap.toList ds = true)
    (hs : Sim E st w) (hf : FrRel E N fr a) (hw : (step (.mkfn f ds) fr st).wp (ACall P) K) (hc : Cont E st w o a next K) : o.wp P a w next Q := by
  have h1 := okXs_rel hf hx
  have h0 : first = #[] := by simpa using h0
  subst h0
  refine wp_val (x := .func (.func f) #[] (cap.map a.eval)) (by simp [execOp, ho, Instr.makeFunc]) (hc.same hs hw ?_)
  have e : (cap.toList.map a.eval).toArray = cap.map a.eval := by
    apply Array.ext'
    simp
  rw [e] at h1
  exact .fn _ _ _ _ _ rfl h1.1 (fun j v x hj => by simp at hj) h1.2
end
end Go.Eng
