/-
Each operation of the model does what the abstract step says (part five: new objects).
-/
import Derived.Test.YtfobkjdmohaakaaGreatEngOps4
namespace Go.Eng
open Go

/-- Same streams. -/
structure SameOut (w w' : World) : Prop where
  os : w'.os = w.os
  out : w'.output = w.output
  tape : w'.tape = w.tape
theorem SameOut.refl (w : World) : SameOut w w := ⟨rfl, rfl, rfl⟩

theorem Env.ofG_push (E : Env) (g g' : Bool) (L : Loc) (J : Imm) : (E.ofG g').Le ((E.push g L J).ofG g') := by
  cases g' with
  | true => exact Env.cut_mono (Env.push_le E g L J)
  | false => exact Env.push_le E g L J
theorem Env.at_newKey (E F : Env) (g : Bool) : F.at (E.newKey g) = F.ofG g := by cases g <;> rfl

section
variable {E : Env} {st : St} {w w' : World}

/-- A new row: an object of its own. -/
theorem Sim.newRow (h : Sim E st w) (gone : Option Key) (g : Bool) {cells : Array Value} {t : TypeId} {fz : Nat × Nat} (hfz : FzOk fz cells.size) (hh : w'.heap = w.heap.push (.cells cells t fz)) (ho : SameOut w w')
    (ob : Obj) (cs : List V) (hob : ∀ F (L : Loc), L.base = 0 → RowOf F w' L cs → Holds F w' L ob) (hl : cs.length ≤ cells.size)
    (hr : ∀ (j : Nat) (v : V), cs[j]? = some v → ∃ x, cells[j]? = some x ∧ Rel (E.ofG g) v x ∧ x.oneCell' = true) :
    ∃ E', Sim E' ((match gone with | some k => st.remove k | none => st).push g ob) w' ∧ Ext E st w E' ((match gone with | some k => st.remove k | none => st).push g ob) w' ∧
      E'.has (st.newKey g) ∧ E'.μ (st.newKey g) = ⟨w.heap.size, 0, cells.size⟩ := by
  have hrow : RowOf ((E.push g ⟨w.heap.size, 0, cells.size⟩ fun b j => if b = w.heap.size then (fun _ => none) j else none).at (E.newKey g)) w' ⟨w.heap.size, 0, cells.size⟩ cs := by
    refine ⟨cells, t, fz, by simp [hh], hfz, by simpa using hl, Nat.le_refl _, fun j v hj => ?_⟩
    obtain ⟨x, hx, hrx, h1⟩ := hr j v hj
    refine ⟨x, by simpa using hx, ?_, h1⟩
    rw [Env.at_newKey]
    exact hrx.mono (Env.ofG_push _ _ _ _ _)
  obtain ⟨h1, h2⟩ := h.fresh gone g 0 cells.size (fun _ => none) ob _ hh ho.os ho.out ho.tape (fun j x hx => by cases hx) (hob _ _ rfl hrow)
  refine ⟨_, h1, h2, ?_, ?_⟩
  · rw [h.newKey]; exact Env.push_has_new _ _ _ _
  · rw [h.newKey]; exact Env.push_new _ _ _ _

/-- A new row of immutable cells, with room behind them. -/
theorem Sim.newImm (h : Sim E st w) (gone : Option Key) (g : Bool) {cells : Array Value} {t : TypeId} {fz : Nat × Nat} (hfz : FzOk fz cells.size) (hh : w'.heap = w.heap.push (.cells cells t fz)) (ho : SameOut w w')
    (n : Nat) (hn : n ≤ cells.size) :
    ∃ E', Sim E' ((match gone with | some k => st.remove k | none => st).push g .spare) w' ∧ Ext E st w E' ((match gone with | some k => st.remove k | none => st).push g .spare) w' ∧
      E'.has (st.newKey g) ∧ E'.μ (st.newKey g) = ⟨w.heap.size, n, cells.size⟩ ∧ ∀ j, j < n → E'.I w.heap.size j = cells[j]? := by
  have hold : ∀ j, E.I w.heap.size j = none := by
    intro j
    cases hI : E.I w.heap.size j with
    | none => rfl
    | some x => have := h.imm _ _ _ hI; simp [cellIn] at this
  have hrow : RowOf ((E.push g ⟨w.heap.size, n, cells.size⟩ fun b j => if b = w.heap.size then (fun j => if j < n then cells[j]? else none) j else none).at (E.newKey g)) w' ⟨w.heap.size, n, cells.size⟩ [] :=
    ⟨cells, t, fz, by simp [hh], hfz, by simpa using hn, Nat.le_refl _, fun j v hj => by simp at hj⟩
  obtain ⟨h1, h2⟩ := h.fresh gone g n cells.size (fun j => if j < n then cells[j]? else none) .spare _ hh ho.os ho.out ho.tape (fun j x hx => by
    split at hx
    · exact ⟨⟨_, _, _, rfl, hx⟩, by omega⟩
    · cases hx) hrow
  refine ⟨_, h1, h2, ?_, ?_, ?_⟩
  · rw [h.newKey]; exact Env.push_has_new _ _ _ _
  · rw [h.newKey]; exact Env.push_new _ _ _ _
  · intro j hj
    simp [Env.push, hold, hj]

/-- A new map. -/
theorem Sim.newMap (h : Sim E st w) (g : Bool) (kd : Option IntKind) : ∃ E', Sim E' (st.push g (.mp kd [])) (w.alloc (.map #[] 0)) ∧ Ext E st w E' (st.push g (.mp kd [])) (w.alloc (.map #[] 0)) ∧
      E'.has (st.newKey g) ∧ (E'.μ (st.newKey g)).blk = w.heap.size := by
  obtain ⟨h1, h2⟩ := h.fresh (w' := w.alloc (.map #[] 0)) none g 0 0 (fun _ => none) (.mp kd []) (.map #[] 0) rfl rfl rfl rfl (fun j x hx => by cases hx)
    ⟨#[], 0, (by show (w.heap.push _)[w.heap.size]? = _; simp), rfl, (fun j q e hq => by simp at hq), fun x hx => by simp at hx⟩
  refine ⟨_, h1, h2, ?_, ?_⟩
  · rw [h.newKey]; exact Env.push_has_new _ _ _ _
  · rw [h.newKey]; rw [Env.push_new]
end

/-! Zero values. -/
def zeroOk (P : Program) (t : TypeId) (zs : List V) : Bool :=
  match P.info? t with
  | some i => match i.zero with
    | some z => decide (z.cells.size = zs.length) && decide (i.size = zs.length) && z.cells.all (·.oneCell') && (z.cells.toList.zip zs).all fun q => constOk 4 q.1 q.2
    | none => false
  | none => false
theorem zeroOk_spec {P : Program} {t : TypeId} {zs : List V} (h : zeroOk P t zs = true) :
    ∃ i z, P.info? t = some i ∧ i.zero = some z ∧ i.size = zs.length ∧ (∀ E, RelL E zs z.cells) ∧ z.cells.size = zs.length ∧ ∀ (j : Nat) (x : Value), z.cells[j]? = some x → x.oneCell' = true := by
  unfold zeroOk at h
  split at h
  · rename_i i hi
    split at h
    · rename_i z hz
      simp only [Bool.and_eq_true, decide_eq_true_eq] at h
      refine ⟨i, z, hi, hz, h.1.1.2, fun E => ⟨h.1.1.1, fun j v x hj hx => constOk_rel (zip_all h.2 (by rw [Array.getElem?_toList]; exact hx) hj) E⟩, h.1.1.1, ?_⟩
      intro j x hx
      exact (Array.all_eq_true_iff_forall_mem.1 h.1.2) x (Array.mem_of_getElem? hx)
    · cases h
  · cases h
theorem run_zeroValue {P : Program} {t : TypeId} {i : TypeInfo} {z : Value} (hi : P.info? t = some i) (hz : i.zero = some z) (w : World) : (zeroValue t).run P w = .ok z w := by
  simp [zeroValue, typeInfo, hi, hz]

section
variable {P : Program} {o : Oper} {a : Act} {E : Env} {N : Nat} {st : St} {w : World} {fr : Fr} {next : Act → World → Prop} {Q : Exit → Act → World → Prop} {K : R → Prop}

theorem step_alloc {t : TypeId} {g : Bool} {zero : List V} (ho : o.op = .alloc t) (hz : zeroOk P t zero = true) (hs : Sim E st w)
    (hw : (step (.alloc g zero) fr st).wp (ACall P) K) (hc : Cont E st w o a next K) : o.wp P a w next Q := by
  obtain ⟨i, z, hi, hz0, hsz, hr, hl, h1⟩ := zeroOk_spec hz
  obtain ⟨E', s1, s2, s3, s4⟩ := hs.newRow (w' := w.alloc (.cells z.cells t)) none g (.inl rfl) rfl ⟨rfl, rfl, rfl⟩ (.cs zero) zero (fun _ _ h0 h => ⟨h0, h⟩) (by omega)
    (fun j v hj => let ⟨x, hx, hrx⟩ := (hr (E.ofG g)).get hj; ⟨x, hx, hrx, h1 j x hx⟩)
  refine wp_val (x := .pointer (some ⟨w.heap.size, 0, none⟩)) ?_ (hc _ _ E' _ _ hw s1 s2 ?_)
  · simp [execOp, ho, Instr.alloc, run_zeroValue hi hz0, newVar, newRow]
  · have := Rel.p (E := E') (st.newKey g) 0 s3
    rw [s4] at this
    exact this

theorem step_box {t : TypeId} {x : Operand} {d : Opd} {g : Bool} (ho : o.op = .box t x) (hx : okX x d = true) (hs : Sim E st w) (hf : FrRel E N fr a)
    (hw : (step (.box g d) fr st).wp (ACall P) K) (hc : Cont E st w o a next K) : o.wp P a w next Q := by
  have h1 := okX_rel hx hf
  simp only [step] at hw
  split at hw
  case h_2 => exact hw.elim
  rename_i hsto
  unfold T.opt at hw
  split at hw
  case h_2 => exact hw.elim
  rename_i c hcs
  obtain ⟨hcl, hone⟩ := sto_cells hsto h1
  have hrv := ownG_rel hcs hcl
  have hsz : (a.eval x).cells.size = c.length := hrv.1
  obtain ⟨E', s1, s2, s3, s4⟩ := hs.newRow (w' := w.alloc (.cells (a.eval x).cells t)) none g (.inl rfl) rfl ⟨rfl, rfl, rfl⟩ (.cs c) c (fun _ _ h0 h => ⟨h0, h⟩) (by omega)
    (fun j v hj => let ⟨x, hx, hrx⟩ := hrv.get hj; ⟨x, hx, hrx, hone x (by rw [Array.mem_toList_iff]; exact Array.mem_of_getElem? hx)⟩)
  refine wp_val (x := .pointer (some ⟨w.heap.size, 0, none⟩)) ?_ (hc _ _ E' _ _ hw s1 s2 ?_)
  · simp [execOp, ho, Instr.box, newVar, newRow]
  · have := Rel.p (E := E') (st.newKey g) 0 s3
    rw [s4] at this
    exact this

theorem step_mkmap {t : TypeId} {g : Bool} {kd : Option IntKind} (ho : o.op = .makeMap t none) (hs : Sim E st w)
    (hw : (step (.mkmap g kd) fr st).wp (ACall P) K) (hc : Cont E st w o a next K) : o.wp P a w next Q := by
  obtain ⟨E', s1, s2, s3, s4⟩ := hs.newMap g kd
  refine wp_val (x := .map (some w.heap.size)) ?_ (hc _ _ E' _ _ hw s1 s2 ?_)
  · simp [execOp, ho, Instr.makeMap]
  · have := Rel.m (E := E') (st.newKey g) s3
    rw [s4] at this
    exact this

/-! Aggregates put together. -/
def partsOk (P : Program) (fs : Array Field) : List (Nat × Operand) → List (Nat × Nat × Opd) → Bool
  | [], [] => true
  | (i, x) :: r, (off, sz, d) :: q => (match fs[i]? with
      | some f => decide (f.offset = off) && (P.info? f.type).map (·.size) == some sz
      | none => false) && okX x d && partsOk P fs r q
  | _, _ => false
def partsOkA (sz : Nat) : List (Nat × Operand) → List (Nat × Nat × Opd) → Bool
  | [], [] => true
  | (i, x) :: r, (off, sz', d) :: q => decide (off = i * sz) && decide (sz' = sz) && okX x d && partsOkA sz r q
  | _, _ => false
/-- The cells of one part laid in. -/
theorem foldl_put (cs : Array Value) (off : Nat) : ∀ (l : List Value) (k : Nat) (acc : Array Value), (l.zipIdx k).foldl (fun (cs : Array Value) (q : Value × Nat) => cs.setIfInBounds (off + q.2) q.1) acc = stArr acc (off + k) l
  | [], _, _ => rfl
  | v :: r, k, acc => by
    rw [List.zipIdx_cons, List.foldl_cons, foldl_put cs off r]
    rfl
theorem fill_put (v : Array Value) (off : Nat) (acc : Array Value) : v.zipIdx.foldl (fun (cs : Array Value) (q : Value × Nat) => cs.setIfInBounds (off + q.2) q.1) acc = stArr acc off v.toList := by
  rw [← Array.foldl_toList, Array.toList_zipIdx, foldl_put acc off v.toList 0 acc, Nat.add_zero]
theorem stRel {cs : List V} {xs : Array Value} (hr : RelL E cs xs) (h1 : ∀ (j : Nat) (x : Value), xs[j]? = some x → x.oneCell' = true) {off : Nat} {vs : List V} {ys : Array Value} (hv : RelL E vs ys) (hy : ∀ y ∈ ys.toList, y.oneCell' = true)
    (hin : off + vs.length ≤ cs.length) : RelL E (stCells cs off vs) (stArr xs off ys.toList) ∧ ∀ (j : Nat) (x : Value), (stArr xs off ys.toList)[j]? = some x → x.oneCell' = true := by
  have hl : ys.toList.length = vs.length := by simpa using hv.1
  have hs := hr.1
  refine ⟨⟨by rw [stArr_size, stCells_length, hs], fun j v x hj hx => ?_⟩, fun j x hx => ?_⟩
  · rw [stCells_get _ _ _ _ hin] at hj
    rw [stArr_get _ _ _ _ (by omega)] at hx
    by_cases hc : off ≤ j ∧ j < off + vs.length
    · rw [if_pos hc] at hj
      rw [if_pos (by omega)] at hx
      exact hv.2 _ v x hj (by simpa using hx)
    · rw [if_neg hc] at hj
      rw [if_neg (by omega)] at hx
      exact hr.2 _ v x hj hx
  · rw [stArr_get _ _ _ _ (by omega)] at hx
    by_cases hc : off ≤ j ∧ j < off + ys.toList.length
    · rw [if_pos hc] at hx
      exact hy x (List.mem_of_getElem? hx)
    · rw [if_neg hc] at hx
      exact h1 j x hx
theorem fill_rel (place : Nat → Option (Nat × Nat)) : ∀ (_ps : List (Nat × V)) (qs : List (Nat × Nat × V)) (xs : List (Nat × Value)) (cs cs' : List V) (ys : Array Value),
    fillParts cs qs = some cs' → RelL E cs ys → (∀ (j : Nat) (x : Value), ys[j]? = some x → x.oneCell' = true) →
    qs.length = xs.length → (∀ (j : Nat) (q : Nat × Nat × V) (x : Nat × Value), qs[j]? = some q → xs[j]? = some x → place x.1 = some (q.1, q.2.1) ∧ Rel E q.2.2 x.2) →
    ∃ zs, Instr.fill place ys xs = some zs ∧ RelL E cs' zs ∧ ∀ (j : Nat) (x : Value), zs[j]? = some x → x.oneCell' = true := by
  intro ps qs
  induction qs with
  | nil =>
    intro xs cs cs' ys h hr h1 hl _
    simp only [fillParts, Option.some.injEq] at h
    subst h
    have : xs = [] := List.eq_nil_of_length_eq_zero hl.symm
    subst this
    exact ⟨ys, rfl, hr, h1⟩
  | cons q r ih =>
    obtain ⟨off, sz, v⟩ := q
    intro xs cs cs' ys h hr h1 hl hp
    match xs, hl with
    | (i, x) :: xr, hl =>
    simp only [fillParts] at h
    split at h
    case isFalse => cases h
    rename_i hc
    obtain ⟨hst, hsz, hin⟩ := hc
    obtain ⟨hpl, hrv⟩ := hp 0 _ _ rfl rfl
    obtain ⟨hcl, hone⟩ := sto_cells hst hrv
    have hxs : x.cells.size = sz := by rw [hcl.1]; exact hsz
    have hys : ys.size = cs.length := hr.1
    obtain ⟨hr', h1'⟩ := stRel hr h1 hcl hone (off := off) (by omega)
    obtain ⟨zs, hz1, hz2, hz3⟩ := ih xr _ cs' _ h hr' h1' (by simpa using hl) (fun j q y hq hy => hp (j + 1) q y (by simpa using hq) (by simpa using hy))
    refine ⟨zs, ?_, hz2, hz3⟩
    simp only at hpl
    simp only [Instr.fill, hpl]
    rw [if_neg (by simp [hxs]; omega)]
    rw [← hz1]
    congr 1
    exact fill_put _ _ _
theorem evPartsB_spec {fs : Array Field} (hf : FrRel E N fr a) : ∀ {ps : List (Nat × Operand)} {qs : List (Nat × Nat × Opd)}, partsOk P fs ps qs = true → 
    (evPartsB fr qs).length = ps.length ∧ ∀ (j : Nat) (q : Nat × Nat × V) (p : Nat × Operand), (evPartsB fr qs)[j]? = some q → ps[j]? = some p → (∃ f : Field, fs[p.1]? = some f ∧ f.offset = q.1 ∧ (P.info? f.type).map (·.size) = some q.2.1) ∧ Rel E q.2.2 (a.eval p.2)
  | [], [], _ => ⟨rfl, fun j q p hq => by simp [evPartsB] at hq⟩
  | (i, x) :: r, (off, sz, d) :: q, h => by
    simp only [partsOk, Bool.and_eq_true] at h
    obtain ⟨⟨h1, h2⟩, h3⟩ := h
    obtain ⟨l1, l2⟩ := evPartsB_spec hf h3
    refine ⟨by simp [evPartsB, l1], fun j y p hy hp => ?_⟩
    cases j with
    | zero =>
      simp [evPartsB] at hy hp
      subst hy; subst hp
      refine ⟨?_, okX_rel h2 hf⟩
      split at h1
      · rename_i f hfi
        simp only [Bool.and_eq_true, decide_eq_true_eq, beq_iff_eq] at h1
        exact ⟨f, hfi, h1.1, h1.2⟩
      · cases h1
    | succ j => exact l2 j y p (by simpa [evPartsB] using hy) (by simpa using hp)
  | [], _ :: _, h => by cases h
  | (_, _) :: _, [], h => by simp [partsOk] at h
theorem evPartsB_specA {sz : Nat} (hf : FrRel E N fr a) : ∀ {ps : List (Nat × Operand)} {qs : List (Nat × Nat × Opd)}, partsOkA sz ps qs = true → 
    (evPartsB fr qs).length = ps.length ∧ ∀ (j : Nat) (q : Nat × Nat × V) (p : Nat × Operand), (evPartsB fr qs)[j]? = some q → ps[j]? = some p → (q.1 = p.1 * sz ∧ q.2.1 = sz) ∧ Rel E q.2.2 (a.eval p.2)
  | [], [], _ => ⟨rfl, fun j q p hq => by simp [evPartsB] at hq⟩
  | (i, x) :: r, (off, sz', d) :: q, h => by
    simp only [partsOkA, Bool.and_eq_true, decide_eq_true_eq] at h
    obtain ⟨⟨⟨h0, h1⟩, h2⟩, h3⟩ := h
    obtain ⟨l1, l2⟩ := evPartsB_specA hf h3
    refine ⟨by simp [evPartsB, l1], fun j y p hy hp => ?_⟩
    cases j with
    | zero =>
      simp [evPartsB] at hy hp
      subst hy; subst hp
      exact ⟨⟨h0, h1⟩, okX_rel h2 hf⟩
    | succ j => exact l2 j y p (by simpa [evPartsB] using hy) (by simpa using hp)
  | [], _ :: _, h => by cases h
  | (_, _) :: _, [], h => by simp [partsOkA] at h

theorem mapM_ok {α β : Type} {f : α → Sem β} {g : α → β} : ∀ (l : List α), (∀ x ∈ l, (f x).run P w = .ok (g x) w) → (l.mapM f).run P w = .ok (l.map g) w
  | [], _ => rfl
  | x :: r, h => by
    have h1 := h x (.head _)
    have h2 := mapM_ok r (fun y hy => h y (.tail _ hy))
    rw [List.mapM_cons]
    simp only [Sem.run_bind, h1, h2, Result.andThen_ok, Sem.run_pure, List.map_cons]
theorem mapM_okA {α β : Type} {f : α → Sem β} {g : α → β} (l : Array α) (h : ∀ x ∈ l.toList, (f x).run P w = .ok (g x) w) : (l.mapM f).run P w = .ok (l.map g) w := by
  have := mapM_ok (P := P) (w := w) l.toList h
  cases l with
  | mk l =>
    rw [List.mapM_toArray]
    simp only at this
    rw [map_eq_pure_bind]
    simp only [Sem.run_bind, this, Result.andThen_ok, Sem.run_pure]
    simp

theorem step_bld_s {t : TypeId} {ps : Array (Nat × Operand)} {qs : List (Nat × Nat × Opd)} {zero : List V} {fs : Array Field} (ho : o.op = .build t ps) (hz : zeroOk P t zero = true) (hu : P.underlying t = some (.struct fs))
    (hall : (fs.toList.all fun f => (P.info? f.type).isSome) = true) (hp : partsOk P fs ps.toList qs = true) (hs : Sim E st w) (hf : FrRel E N fr a)
    (hw : (step (.bld zero qs) fr st).wp (ACall P) K) (hc : Cont E st w o a next K) : o.wp P a w next Q := by
  obtain ⟨i, z, hi, hz0, hsz, hr, hl, h1⟩ := zeroOk_spec hz
  simp only [step] at hw
  unfold T.opt at hw
  split at hw
  case h_2 => exact hw.elim
  rename_i cs' hfp
  obtain ⟨l1, l2⟩ := evPartsB_spec (P := P) hf hp
  obtain ⟨zs, hz1, hz2, hz3⟩ := fill_rel (E := E) (fun k => (fs.map fun f => (f.offset, P.cellsOf f.type))[k]?) [] (evPartsB fr qs) (ps.toList.map fun q => (q.1, a.eval q.2)) zero cs' z.cells hfp (hr E) h1 (by simp [l1]) (fun j q x hq hx => by
    rw [List.getElem?_map] at hx
    cases hpj : ps.toList[j]? with
    | none => rw [hpj] at hx; cases hx
    | some p =>
      rw [hpj] at hx
      simp only [Option.map_some, Option.some.injEq] at hx
      subst hx
      obtain ⟨⟨f, hfi, ho1, ho2⟩, hrel⟩ := l2 j q p hq hpj
      refine ⟨?_, hrel⟩
      simp only [Array.getElem?_map, hfi, Option.map_some, Program.cellsOf, ho1]
      cases hq2 : P.info? f.type with
      | none => simp [hq2] at ho2
      | some i2 =>
        simp [hq2] at ho2
        simp [ho2])
  have hm : (fs.mapM fun f => do pure (f.offset, ← sizeOf f.type) : Sem (Array (Nat × Nat))).run P w = .ok (fs.map fun f => (f.offset, P.cellsOf f.type)) w := by
    refine mapM_okA fs fun f hfm => ?_
    have := List.all_eq_true.1 hall f hfm
    obtain ⟨i2, hi2⟩ := Option.isSome_iff_exists.1 this
    simp [sizeOf, typeInfo, hi2, Program.cellsOf]
  refine wp_val (x := .agg zs) ?_ (hc.same hs hw (.agg _ _ hz2.1 hz3 hz2.2))
  have hparts : (ps.map fun (q : Nat × Operand) => (q.1, a.eval q.2)).toList = ps.toList.map fun q => (q.1, a.eval q.2) := by simp
  simp only [execOp, ho, Instr.build, Sem.run_bind, run_zeroValue hi hz0, run_underlying hu, Result.andThen_ok, hm]
  simp only [hparts, hz1, Sem.run_pure, Result.andThen_ok]

theorem step_bld_a {t e : TypeId} {n sz : Nat} {ps : Array (Nat × Operand)} {qs : List (Nat × Nat × Opd)} {zero : List V} (ho : o.op = .build t ps) (hz : zeroOk P t zero = true) (hu : P.underlying t = some (.array n e))
    (hsz' : (P.info? e).map (·.size) = some sz) (hp : partsOkA sz ps.toList qs = true) (hs : Sim E st w) (hf : FrRel E N fr a)
    (hw : (step (.bld zero qs) fr st).wp (ACall P) K) (hc : Cont E st w o a next K) : o.wp P a w next Q := by
  obtain ⟨i, z, hi, hz0, hsz, hr, hl, h1⟩ := zeroOk_spec hz
  simp only [step] at hw
  unfold T.opt at hw
  split at hw
  case h_2 => exact hw.elim
  rename_i cs' hfp
  obtain ⟨l1, l2⟩ := evPartsB_specA hf hp
  obtain ⟨zs, hz1, hz2, hz3⟩ := fill_rel (E := E) (fun k => some (k * sz, sz)) [] (evPartsB fr qs) (ps.toList.map fun q => (q.1, a.eval q.2)) zero cs' z.cells hfp (hr E) h1 (by simp [l1]) (fun j q x hq hx => by
    rw [List.getElem?_map] at hx
    cases hpj : ps.toList[j]? with
    | none => rw [hpj] at hx; cases hx
    | some p =>
      rw [hpj] at hx
      simp only [Option.map_some, Option.some.injEq] at hx
      subst hx
      obtain ⟨⟨ho1, ho2⟩, hrel⟩ := l2 j q p hq hpj
      exact ⟨by simp [ho1, ho2], hrel⟩)
  cases hq : P.info? e with
  | none => simp [hq] at hsz'
  | some i2 =>
  have hi2 : i2.size = sz := by simpa [hq] using hsz'
  refine wp_val (x := .agg zs) ?_ (hc.same hs hw (.agg _ _ hz2.1 hz3 hz2.2))
  have hparts : (ps.map fun (q : Nat × Operand) => (q.1, a.eval q.2)).toList = ps.toList.map fun q => (q.1, a.eval q.2) := by simp
  simp only [execOp, ho, Instr.build, Sem.run_bind, run_zeroValue hi hz0, run_underlying hu, Result.andThen_ok]
  simp only [sizeOf, typeInfo, program, hparts]
  simp [hz1, Sem.run, hq, hi2]
end
end Go.Eng
