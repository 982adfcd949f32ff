/-
The check that an abstract operation stands for the model's, and that it then does.
-/
import Derived.Test.YtfobkjdmohaakaaGreatEngOps12
namespace Go.Eng
open Go

def elOf (P : Program) (t : TypeId) : Option (TypeId × Nat × Nat) :=
  match P.underlying t with
  | some (.slice el) => match P.info? el with
    | some i => some (el, i.size, i.bytes)
    | none => none
  | _ => none
theorem elOf_spec {P : Program} {t el : TypeId} {sz bytes : Nat} (h : elOf P t = some (el, sz, bytes)) : P.underlying t = some (.slice el) ∧ (P.info? el).map (·.size) = some sz := by
  unfold elOf at h
  split at h
  · split at h
    · rename_i hi
      cases h
      exact ⟨‹_›, by rw [hi]; rfl⟩
    · cases h
  · cases h

/-- The arguments of a built-in. -/
def blt (op : Op) (b : Builtin) : Option (List Operand × Option TypeId × Option TypeId) :=
  match op with
  | .call c => match c.callee with
    | .builtin b' => if b' = b then some (c.args.toList, c.argTypes[0]?, c.argTypes[1]?) else none
    | _ => none
  | _ => none
theorem blt_spec {op : Op} {b : Builtin} {xs : List Operand} {t0 t1 : Option TypeId} (h : blt op b = some (xs, t0, t1)) : ∃ ts : Array TypeId, op = .call { callee := .builtin b, args := xs.toArray, argTypes := ts } ∧ ts[0]? = t0 ∧ ts[1]? = t1 := by
  unfold blt at h
  split at h
  · rename_i c
    split at h
    · rename_i b' hb
      split at h
      · rename_i hbb
        subst hbb
        simp only [Option.some.injEq, Prod.mk.injEq] at h
        obtain ⟨rfl, h0, h1⟩ := h
        refine ⟨c.argTypes, ?_, h0, h1⟩
        cases c
        simp only at hb
        subst hb
        rfl
      · cases h
    · cases h
  · cases h

def okOp (P : Program) (op : Op) (A : AOp) : Bool :=
  match A with
  | .mv d => match op with
    | .move x => okX x d
    | _ => false
  | .asg d => match op with
    | .assign x => okX x d
    | _ => false
  | .pick c d e => match op with
    | .pick x y z => okX x c && okX y d && okX z e
    | _ => false
  | .alloc _ zero => match op with
    | .alloc t => zeroOk P t zero
    | _ => false
  | .box _ d => match op with
    | .box _ x => okX x d
    | _ => false
  | .bld zero qs => match op with
    | .build t ps => zeroOk P t zero && (match P.underlying t with
      | some (.struct fs) => (fs.toList.all fun f => (P.info? f.type).isSome) && partsOk P fs ps.toList qs
      | some (.array _ e) => (match P.info? e with
        | some i => partsOkA i.size ps.toList qs
        | none => false)
      | _ => false)
    | _ => false
  | .bsl _ sz len zero qs => match op with
    | .buildSlice t l ps => decide (l = len) && (match elOf P t with
      | some (el, _, bytes) => elOk P el sz bytes && zeroOk P el zero && decide (len * sz ≤ 16777216) && partsOkS ps.toList qs
      | none => false)
    | _ => false
  | .load n d => match op with
    | .load t x => okX x d && szOk P t n
    | _ => false
  | .store n d e => match op with
    | .store t x y => okX x d && okX y e && decide ((P.info? t).map (·.size) = some n)
    | _ => false
  | .nilc d => match op with
    | .nilCheck x => okX x d
    | _ => false
  | .bin b d e => match op with
    | .binOp b' _ x y _ => decide (b' = b) && okX x d && okX y e
    | _ => false
  | .eqc row ks neg d e => match op with
    | .binOp b t x y _ => decide (b = if neg then .neq else .eql) && okX x d && okX y e && eqcOk P t row ks
    | _ => false
  | .eqn neg d e => match op with
    | .binOp b t x y _ => decide (b = if neg then .neq else .eql) && okX x d && okX y e && nilOk P t e
    | _ => false
  | .un u d => match op with
    | .unOp u' _ x => decide (u' = u) && okX x d
    | _ => false
  | .cvi k d => match op with
    | .convert s t x => okX x d && (P.underlying s).isSome && (match P.underlying t with
      | some (.int k') => decide (k' = k)
      | _ => false)
    | _ => false
  | .cvs d => match op with
    | .convert s t x => okX x d && (P.underlying s).isSome && (match P.underlying t with
      | some .string => true
      | _ => false)
    | _ => false
  | .s2b _ d => match op with
    | .convert s t x => okX x d && (match P.underlying s, P.underlying t with
      | some .string, some (.slice el) => (match P.underlying el with
        | some (.int .u8) => true
        | _ => false)
      | _, _ => false)
    | _ => false
  | .mkb d => match op with
    | .convert s t x => okX x d && decide (s = t) && (match P.underlying t with
      | some (.slice el) => (match P.underlying el with
        | some (.int .u8) => true
        | _ => false)
      | _ => false)
    | _ => false
  | .b2s d => match op with
    | .convert s t x => okX x d && (match P.underlying s, P.underlying t with
      | some (.slice el), some .string => (match P.underlying el with
        | some (.int .u8) => true
        | _ => false)
      | _, _ => false)
    | _ => false
  | .mkfn f ds => match op with
    | .makeFunc g first cap => (match g with
      | .func f' => decide (f' = f) && decide (first.size = 0) && okXs cap.toList ds
      | _ => false)
    | _ => false
  | .mkmap _ _ => match op with
    | .makeMap _ none => true
    | _ => false
  | .mksl _ sz bytes zero d e => match op with
    | .makeSlice t x y => okX x d && okX y e && (match P.underlying t with
      | some (.slice el) => elOk P el sz bytes && zeroOk P el zero
      | _ => false)
    | _ => false
  | .slstr d l h => match op with
    | .slice t x lo hi none => okX x d && okXo lo l && okXo hi h && (match P.underlying t with
      | some .string => true
      | _ => false)
    | _ => false
  | .slsl sz d l h mx => match op with
    | .slice t x lo hi none => okX x d && okXo lo l && okXo hi h && mx.isNone && decide (0 < sz) && (match elOf P t with
      | some (_, sz', _) => decide (sz' = sz)
      | none => false)
    | _ => false
  | .faddr off d => match op with
    | .fieldAddr t x f => okX x d && (match P.underlying t with
      | some (.struct fs) => (match fs[f]? with
        | some fl => decide (fl.offset = off) && (match P.info? fl.type with
          | some i => decide (i.size ≠ 0)
          | none => false)
        | none => false)
      | _ => false)
    | _ => false
  | .fld off n d => match op with
    | .field t x f => okX x d && (match P.underlying t with
      | some (.struct fs) => (match fs[f]? with
        | some fl => decide (fl.offset = off) && szOk P fl.type n
        | none => false)
      | _ => false)
    | _ => false
  | .iasl sz d c => match op with
    | .indexAddr t x y => okX x d && okX y c && (match elOf P t with
      | some (_, sz', _) => decide (sz' = sz)
      | none => false)
    | _ => false
  | .iaar len sz d c => match op with
    | .indexAddr t x y => okX x d && okX y c && (match P.underlying t with
      | some (.array n e) => decide (n = len) && decide ((P.info? e).map (·.size) = some sz)
      | _ => false)
    | _ => false
  | .ixs d c => match op with
    | .index t x y => okX x d && okX y c && (match P.underlying t with
      | some .string => true
      | _ => false)
    | _ => false
  | .ixa len sz n d c => match op with
    | .index t x y => okX x d && okX y c && (match P.underlying t with
      | some (.array m e) => decide (m = len) && decide ((P.info? e).map (·.size) = some sz) && szOk P e n
      | _ => false)
    | _ => false
  | .lkp kd zero d e ok => match op with
    | .lookup t x y ok' => okX x d && okX y e && decide (ok' = ok) && (match P.underlying t with
      | some (.map kt el) => keyTy P kt kd && (match P.info? el with
        | some i => (match i.zero with
          | some z => constOk 4 z zero
          | none => false)
        | none => false)
      | _ => false)
    | _ => false
  | .mupd kd d e c => match op with
    | .mapUpdate t x y v => okX x d && okX y e && okX v c && (match P.underlying t with
      | some (.map kt _) => keyTy P kt kd
      | _ => false)
    | _ => false
  | .ext d i => match op with
    | .extract x j => okX x d && decide (j = i)
    | _ => false
  | .call f ds => match op with
    | .call c => (match c.callee with
      | .value (.func g) => decide (g = f) && okXs c.args.toList ds
      | _ => false)
    | _ => false
  | .callv g ds => match op with
    | .call c => (match c.callee with
      | .value f => okX f g && okXs c.args.toList ds
      | _ => false)
    | _ => false
  | .lenS d => match blt op .len with
    | some ([x], some t, _) => okX x d && (match P.underlying t with
      | some .string => true
      | _ => false)
    | _ => false
  | .lenL d => match blt op .len with
    | some ([x], some t, _) => okX x d && (match P.underlying t with
      | some (.slice _) => true
      | _ => false)
    | _ => false
  | .lenA n => match blt op .len with
    | some ([_], some t, _) => (match P.underlying t with
      | some (.array m _) => decide (m = n)
      | _ => false)
    | _ => false
  | .lenM d => match blt op .len with
    | some ([x], some t, _) => okX x d && (match P.underlying t with
      | some (.map _ _) => true
      | _ => false)
    | _ => false
  | .mnmx max ds => match blt op (if max then .max else .min) with
    | some (xs, _, _) => okXs xs ds
    | none => false
  | .append _ sz bytes d e => match blt op .append with
    | some ([s, x], some t, t1) => okX s d && okX x e && notInt P t1 && (match P.underlying t with
      | some (.slice el) => elOk P el sz bytes
      | _ => false)
    | _ => false
  | .copy sz d e => match blt op .copy with
    | some ([x, y], some t, _) => okX x d && okX y e && (match elOf P t with
      | some (_, sz', _) => decide (sz' = sz)
      | none => false)
    | _ => false
  | .delete kd d e => match blt op .delete with
    | some ([x, y], some t, _) => okX x d && okX y e && (match P.underlying t with
      | some (.map kt _) => keyTy P kt kd
      | _ => false)
    | _ => false
  | .clear sz zero d => match blt op .clear with
    | some ([x], some t, _) => okX x d && (match elOf P t with
      | some (el, _, bytes) => elOk P el sz bytes && zeroOk P el zero
      | none => false)
    | _ => false
  | .no => true

section
variable {P : Program} {o : Oper} {a : Act} {E : Env} {N : Nat} {st : St} {w : World} {fr : Fr} {next : Act → World → Prop} {Q : Exit → Act → World → Prop} {K : R → Prop}

/-- (OP) What the abstract step promises the model's operation does. -/
theorem step_ok {A : AOp} (h : okOp P o.op A = true) (hs : Sim E st w) (hf : FrRel E N fr a) (hw : (step A fr st).wp (ACall P) K) (hc : Cont E st w o a next K) : o.wp P a w next Q := by
  cases A <;> simp only [okOp] at h
  case mv => split at h <;> first | exact step_mv ‹_› h hs hf hw hc | cases h
  case asg => split at h <;> first | exact step_asg ‹_› h hs hf hw hc | cases h
  case pick =>
    split at h
    · simp only [Bool.and_eq_true] at h; exact step_pick ‹_› h.1.1 h.1.2 h.2 hs hf hw hc
    · cases h
  case alloc => split at h <;> first | exact step_alloc ‹_› h hs hw hc | cases h
  case box => split at h <;> first | exact step_box ‹_› h hs hf hw hc | cases h
  case bld =>
    split at h
    · simp only [Bool.and_eq_true] at h
      obtain ⟨h1, h2⟩ := h
      split at h2
      · simp only [Bool.and_eq_true] at h2
        exact step_bld_s ‹_› h1 ‹_› h2.1 h2.2 hs hf hw hc
      · split at h2
        · rename_i hi
          exact step_bld_a ‹_› h1 ‹_› (by rw [hi]; rfl) h2 hs hf hw hc
        · cases h2
      · cases h2
    · cases h
  case bsl =>
    split at h
    · simp only [Bool.and_eq_true, decide_eq_true_eq] at h
      obtain ⟨rfl, h2⟩ := h
      split at h2
      · rename_i he
        simp only [Bool.and_eq_true, decide_eq_true_eq] at h2
        exact step_bsl ‹_› (elOf_spec he).1 h2.1.1.1 h2.1.1.2 h2.1.2 h2.2 hs hf hw hc
      · cases h2
    · cases h
  case load =>
    split at h
    · simp only [Bool.and_eq_true] at h; exact step_load ‹_› h.1 h.2 hs hf hw hc
    · cases h
  case store =>
    split at h
    · simp only [Bool.and_eq_true, decide_eq_true_eq] at h; exact step_store ‹_› h.1.1 h.1.2 h.2 hs hf hw hc
    · cases h
  case nilc => split at h <;> first | exact step_nilc ‹_› h hs hf hw hc | cases h
  case bin =>
    split at h
    · simp only [Bool.and_eq_true, decide_eq_true_eq] at h
      obtain ⟨⟨rfl, h1⟩, h2⟩ := h
      exact step_bin ‹_› h1 h2 hs hf hw hc
    · cases h
  case eqc =>
    split at h
    · simp only [Bool.and_eq_true, decide_eq_true_eq] at h
      exact step_eqc ‹_› h.1.1.1 h.1.1.2 h.1.2 h.2 hs hf hw hc
    · cases h
  case eqn =>
    split at h
    · simp only [Bool.and_eq_true, decide_eq_true_eq] at h
      exact step_eqn ‹_› h.1.1.1 h.1.1.2 h.1.2 h.2 hs hf hw hc
    · cases h
  case un =>
    split at h
    · simp only [Bool.and_eq_true, decide_eq_true_eq] at h
      obtain ⟨rfl, h1⟩ := h
      exact step_un ‹_› h1 hs hf hw hc
    · cases h
  case cvi =>
    split at h
    · simp only [Bool.and_eq_true] at h
      obtain ⟨⟨h1, h2⟩, h3⟩ := h
      split at h3
      · simp only [decide_eq_true_eq] at h3
        subst h3
        exact step_cvi ‹_› h1 h2 ‹_› hs hf hw hc
      · cases h3
    · cases h
  case cvs =>
    split at h
    · simp only [Bool.and_eq_true] at h
      obtain ⟨⟨h1, h2⟩, h3⟩ := h
      split at h3
      · exact step_cvs ‹_› h1 h2 ‹_› hs hf hw hc
      · cases h3
    · cases h
  case s2b =>
    split at h
    · simp only [Bool.and_eq_true] at h
      obtain ⟨h1, h3⟩ := h
      split at h3
      · rename_i hA hB
        split at h3
        · exact step_s2b ‹_› h1 hA hB ‹_› hs hf hw hc
        · cases h3
      · cases h3
    · cases h
  case mkb =>
    split at h
    · simp only [Bool.and_eq_true, decide_eq_true_eq] at h
      obtain ⟨⟨h1, rfl⟩, h3⟩ := h
      split at h3
      · rename_i hA
        split at h3
        · exact step_mkb ‹_› h1 hA ‹_› hs hf hw hc
        · cases h3
      · cases h3
    · cases h
  case b2s =>
    split at h
    · simp only [Bool.and_eq_true] at h
      obtain ⟨h1, h3⟩ := h
      split at h3
      · rename_i hA hB
        split at h3
        · exact step_b2s ‹_› h1 hA ‹_› hB hs hf hw hc
        · cases h3
      · cases h3
    · cases h
  case mkfn =>
    split at h
    · split at h
      · simp only [Bool.and_eq_true, decide_eq_true_eq] at h
        obtain ⟨⟨rfl, h1⟩, h2⟩ := h
        exact step_mkfn ‹_› h1 h2 hs hf hw hc
      · cases h
    · cases h
  case mkmap => split at h <;> first | exact step_mkmap ‹_› hs hw hc | cases h
  case mksl =>
    split at h
    · simp only [Bool.and_eq_true] at h
      obtain ⟨⟨h1, h2⟩, h3⟩ := h
      split at h3
      · simp only [Bool.and_eq_true] at h3
        exact step_mksl ‹_› h1 h2 ‹_› h3.1 h3.2 hs hf hw hc
      · cases h3
    · cases h
  case slstr =>
    split at h
    · simp only [Bool.and_eq_true] at h
      obtain ⟨⟨⟨h1, h2⟩, h3⟩, h4⟩ := h
      split at h4
      · exact step_slstr ‹_› ‹_› h1 h2 h3 hs hf hw hc
      · cases h4
    · cases h
  case slsl =>
    split at h
    · simp only [Bool.and_eq_true, decide_eq_true_eq, Option.isNone_iff_eq_none] at h
      obtain ⟨⟨⟨⟨⟨h1, h2⟩, h3⟩, rfl⟩, h5⟩, h4⟩ := h
      split at h4
      · rename_i he
        simp only [decide_eq_true_eq] at h4
        subst h4
        exact step_slsl ‹_› (elOf_spec he).1 (elOf_spec he).2 h5 h1 h2 h3 hs hf hw hc
      · cases h4
    · cases h
  case faddr =>
    split at h
    · simp only [Bool.and_eq_true] at h
      obtain ⟨h1, h2⟩ := h
      split at h2
      · rename_i hu
        split at h2
        · rename_i hfl
          simp only [Bool.and_eq_true, decide_eq_true_eq] at h2
          obtain ⟨h3, h4⟩ := h2
          split at h4
          · rename_i i hi
            simp only [decide_eq_true_eq] at h4
            exact step_faddr ‹_› h1 hu hfl h3 ⟨i, hi, h4⟩ hs hf hw hc
          · cases h4
        · cases h2
      · cases h2
    · cases h
  case fld =>
    split at h
    · simp only [Bool.and_eq_true] at h
      obtain ⟨h1, h2⟩ := h
      split at h2
      · rename_i hu
        split at h2
        · rename_i hfl
          simp only [Bool.and_eq_true, decide_eq_true_eq] at h2
          exact step_fld ‹_› h1 hu hfl h2.1 h2.2 hs hf hw hc
        · cases h2
      · cases h2
    · cases h
  case iasl =>
    split at h
    · simp only [Bool.and_eq_true] at h
      obtain ⟨⟨h1, h2⟩, h3⟩ := h
      split at h3
      · rename_i he
        simp only [decide_eq_true_eq] at h3
        subst h3
        exact step_iasl ‹_› h1 h2 (elOf_spec he).1 (elOf_spec he).2 hs hf hw hc
      · cases h3
    · cases h
  case iaar =>
    split at h
    · simp only [Bool.and_eq_true] at h
      obtain ⟨⟨h1, h2⟩, h3⟩ := h
      split at h3
      · simp only [Bool.and_eq_true, decide_eq_true_eq] at h3
        obtain ⟨rfl, h4⟩ := h3
        exact step_iaar ‹_› h1 h2 ‹_› h4 hs hf hw hc
      · cases h3
    · cases h
  case ixs =>
    split at h
    · simp only [Bool.and_eq_true] at h
      obtain ⟨⟨h1, h2⟩, h3⟩ := h
      split at h3
      · exact step_ixs ‹_› h1 h2 ‹_› hs hf hw hc
      · cases h3
    · cases h
  case ixa =>
    split at h
    · simp only [Bool.and_eq_true] at h
      obtain ⟨⟨h1, h2⟩, h3⟩ := h
      split at h3
      · simp only [Bool.and_eq_true, decide_eq_true_eq] at h3
        obtain ⟨⟨rfl, h4⟩, h5⟩ := h3
        exact step_ixa ‹_› h1 h2 ‹_› h4 h5 hs hf hw hc
      · cases h3
    · cases h
  case lkp =>
    split at h
    · simp only [Bool.and_eq_true, decide_eq_true_eq] at h
      obtain ⟨⟨⟨h1, h2⟩, rfl⟩, h3⟩ := h
      split at h3
      · rename_i hu
        simp only [Bool.and_eq_true] at h3
        obtain ⟨h4, h5⟩ := h3
        split at h5
        · rename_i hi
          split at h5
          · rename_i hz
            exact step_lkp ‹_› hu h4 hi hz h5 h1 h2 hs hf hw hc
          · cases h5
        · cases h5
      · cases h3
    · cases h
  case mupd =>
    split at h
    · simp only [Bool.and_eq_true] at h
      obtain ⟨⟨⟨h1, h2⟩, h3⟩, h4⟩ := h
      split at h4
      · exact step_mupd ‹_› ‹_› h4 h1 h2 h3 hs hf hw hc
      · cases h4
    · cases h
  case ext =>
    split at h
    · simp only [Bool.and_eq_true, decide_eq_true_eq] at h
      obtain ⟨h1, rfl⟩ := h
      exact step_ext ‹_› h1 hs hf hw hc
    · cases h
  case call =>
    split at h
    · rename_i c heq
      split at h
      · rename_i g hc'
        simp only [Bool.and_eq_true, decide_eq_true_eq] at h
        obtain ⟨rfl, h2⟩ := h
        cases c
        simp only at hc' h2
        subst hc'
        exact step_call heq h2 hs hf hw hc
      · cases h
    · cases h
  case callv =>
    split at h
    · rename_i c heq
      split at h
      · rename_i g hc'
        simp only [Bool.and_eq_true] at h
        cases c
        simp only at hc' h
        subst hc'
        exact step_callv heq h.1 h.2 hs hf hw hc
      · cases h
    · cases h
  case lenS =>
    split at h
    · rename_i hb
      obtain ⟨ts, h1, h2, _⟩ := blt_spec hb
      simp only [Bool.and_eq_true] at h
      obtain ⟨h3, h4⟩ := h
      split at h4
      · exact step_lenS h1 h2 ‹_› h3 hs hf hw hc
      · cases h4
    · cases h
  case lenL =>
    split at h
    · rename_i hb
      obtain ⟨ts, h1, h2, _⟩ := blt_spec hb
      simp only [Bool.and_eq_true] at h
      obtain ⟨h3, h4⟩ := h
      split at h4
      · exact step_lenL h1 h2 ‹_› h3 hs hf hw hc
      · cases h4
    · cases h
  case lenA =>
    split at h
    · rename_i hb
      obtain ⟨ts, h1, h2, _⟩ := blt_spec hb
      split at h
      · simp only [decide_eq_true_eq] at h
        subst h
        exact step_lenA h1 h2 ‹_› hs hw hc
      · cases h
    · cases h
  case lenM =>
    split at h
    · rename_i hb
      obtain ⟨ts, h1, h2, _⟩ := blt_spec hb
      simp only [Bool.and_eq_true] at h
      obtain ⟨h3, h4⟩ := h
      split at h4
      · exact step_lenM h1 h2 ‹_› h3 hs hf hw hc
      · cases h4
    · cases h
  case mnmx =>
    split at h
    · rename_i hb
      obtain ⟨ts, h1, h2, _⟩ := blt_spec hb
      exact step_mnmx h1 (by simpa using h) hs hf hw hc
    · cases h
  case append =>
    split at h
    · rename_i hb
      obtain ⟨ts, h1, h2, h2'⟩ := blt_spec hb
      simp only [Bool.and_eq_true] at h
      obtain ⟨⟨⟨h3, h4⟩, h5⟩, h6⟩ := h
      split at h6
      · exact step_append h1 h2 ‹_› h6 (by rw [h2']; exact h5) h3 h4 hs hf hw hc
      · cases h6
    · cases h
  case copy =>
    split at h
    · rename_i hb
      obtain ⟨ts, h1, h2, h2'⟩ := blt_spec hb
      simp only [Bool.and_eq_true] at h
      obtain ⟨⟨h3, h4⟩, h5⟩ := h
      split at h5
      · rename_i he
        simp only [decide_eq_true_eq] at h5
        subst h5
        exact step_copy h1 h2 (elOf_spec he).1 (elOf_spec he).2 h3 h4 hs hf hw hc
      · cases h5
    · cases h
  case delete =>
    split at h
    · rename_i hb
      obtain ⟨ts, h1, h2, h2'⟩ := blt_spec hb
      simp only [Bool.and_eq_true] at h
      obtain ⟨⟨h3, h4⟩, h5⟩ := h
      split at h5
      · exact step_delete h1 h2 ‹_› h5 h3 h4 hs hf hw hc
      · cases h5
    · cases h
  case clear =>
    split at h
    · rename_i hb
      obtain ⟨ts, h1, h2, h2'⟩ := blt_spec hb
      simp only [Bool.and_eq_true] at h
      obtain ⟨h3, h5⟩ := h
      split at h5
      · rename_i he
        simp only [Bool.and_eq_true] at h5
        exact step_clear h1 h2 (elOf_spec he).1 h5.1 h5.2 h3 hs hf hw hc
      · cases h5
    · cases h
  case no => exact hw.elim
end
end Go.Eng
