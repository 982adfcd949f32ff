/-
Each operation of the model does what the abstract step says (part nine: new slices, bytes and strings).
-/
import Derived.Test.YtfobkjdmohaakaaGreatEngOps8
import Derived.Laws.BytesString
namespace Go.Eng
open Go

theorem Heap.upd_self : ∀ (l : List (Nat × Obj)) (n : Nat) (o : Obj), Heap.find l n = some o → Heap.upd l n o = l
  | [], _, _, h => by cases h
  | (k, x) :: r, n, o, h => by
    simp only [Heap.find] at h
    simp only [Heap.upd]
    split at h
    · rename_i hk
      rw [if_pos hk]
      simp only [Option.some.injEq] at h
      subst h; rfl
    · rename_i hk
      rw [if_neg hk, Heap.upd_self r n o h]
theorem St.set_self {st : St} {k : Key} {o : Obj} (h : st.get k = some o) : st.set k o = st := by
  cases k with
  | g n => simp only [St.set, Heap.set]; rw [Heap.upd_self _ _ _ h]
  | l n => simp only [St.set, Heap.set]; rw [Heap.upd_self _ _ _ h]

section
variable {P : Program} {o : Oper} {a : Act} {E : Env} {N : Nat} {st : St} {w : World} {fr : Fr} {next : Act → World → Prop} {Q : Exit → Act → World → Prop} {K : R → Prop}

/-! Rows of one element, again and again. -/
theorem replicate_get {zero : List V} {n j : Nat} (hj : j < n * zero.length) : (List.replicate n zero).flatten[j]? = zero[j % zero.length]? := by
  have hp : 0 < zero.length := by
    rcases Nat.eq_zero_or_pos zero.length with h | h
    · rw [h] at hj; simp at hj
    · exact h
  have hl : ∀ e ∈ List.replicate n zero, e.length = zero.length := fun e he => by rw [(List.mem_replicate.1 he).2]
  have hq : j / zero.length < n := (Nat.div_lt_iff_lt_mul hp).2 hj
  have := flat_get hl (ix := j / zero.length) (j := j % zero.length) (e := zero) (by simp [hq]) (Nat.mod_lt _ hp)
  rw [← this]
  congr 1
  rw [Nat.mul_comm]; exact (Nat.div_add_mod j _).symm
theorem made_get {z : Array Value} {n j : Nat} (hz : 0 < z.size) (hj : j < n) : (madeCells z n)[j]? = z[j % z.size]? := by
  have hm : j % z.size < z.size := Nat.mod_lt _ hz
  simp [madeCells, hj, hm]
theorem made_rel {z : Array Value} {zero : List V} {len : Nat} (hr : RelL E zero z) (hp : 0 < zero.length) : RelL E (List.replicate len zero).flatten (madeCells z (len * zero.length)) := by
  have hl : ∀ e ∈ List.replicate len zero, e.length = zero.length := fun e he => by rw [(List.mem_replicate.1 he).2]
  have hfl := flat_len hl
  rw [List.length_replicate] at hfl
  refine ⟨by rw [size_madeCells, hfl], fun j v x hj hx => ?_⟩
  have hlt : j < len * zero.length := by rw [← hfl]; exact (List.getElem?_eq_some_iff.1 hj).1
  have hzs := hr.1
  rw [replicate_get hlt] at hj
  rw [made_get (by omega) hlt, hzs] at hx
  exact hr.2 _ v x hj hx
theorem made_one {z : Array Value} {n : Nat} (h1 : ∀ (j : Nat) (x : Value), z[j]? = some x → x.oneCell' = true) (hz : 0 < z.size) (j : Nat) (x : Value) (hx : (madeCells z n)[j]? = some x) : x.oneCell' = true := by
  have hlt : j < n := by
    have := (Array.getElem?_eq_some_iff.1 hx).1
    rwa [size_madeCells] at this
  rw [made_get hz hlt] at hx
  exact h1 _ x hx

/-! A slice put together. -/
theorem stCells_all : ∀ {vs e : List V}, vs.length = e.length → stCells e 0 vs = vs := by
  intro vs e h
  apply List.ext_getElem?
  intro j
  rw [stCells_get _ _ _ _ (by omega)]
  by_cases hj : j < vs.length
  · rw [if_pos (by omega)]; rfl
  · rw [if_neg (by omega), List.getElem?_eq_none (by omega), List.getElem?_eq_none (by omega)]
def flatParts (sz : Nat) : List (Nat × V) → List (Nat × Nat × V)
  | [] => []
  | (i, v) :: r => (i * sz, sz, v) :: flatParts sz r
theorem fillElems_flat {sz : Nat} : ∀ {ps : List (Nat × V)} {es es' : List (List V)}, (∀ e ∈ es, e.length = sz) → fillElems es sz ps = some es' →
    fillParts es.flatten (flatParts sz ps) = some es'.flatten ∧ (∀ e ∈ es', e.length = sz) ∧ es'.length = es.length
  | [], es, es', hl, h => by
    simp only [fillElems, Option.some.injEq] at h
    subst h
    exact ⟨rfl, hl, rfl⟩
  | (i, v) :: r, es, es', hl, h => by
    simp only [fillElems] at h
    split at h
    case isFalse => cases h
    rename_i hc
    obtain ⟨h1, h2, h3⟩ := hc
    have hl2 : ∀ e ∈ es.set i v.cells, e.length = sz := by
      intro e he
      rcases List.mem_or_eq_of_mem_set he with h | h
      · exact hl e h
      · rw [h]; exact h2
    obtain ⟨e1, e2, e3⟩ := fillElems_flat hl2 h
    have hfl := flat_len hl
    have hmul : (i + 1) * sz ≤ es.length * sz := Nat.mul_le_mul_right _ h3
    rw [Nat.succ_mul] at hmul
    refine ⟨?_, e2, by rw [e3]; simp⟩
    simp only [flatParts, fillParts]
    rw [if_pos ⟨h1, h2, by omega⟩]
    have hel : es[i]? = some es[i] := by simp [h3]
    have := set_flat hl hel 0 v.cells (by omega)
    rw [stCells_all (by rw [h2, hl _ (List.getElem_mem h3)]), Nat.add_zero] at this
    rw [← this]
    exact e1
def partsOkS : List (Nat × Operand) → List (Nat × Opd) → Bool
  | [], [] => true
  | (i, x) :: r, (j, d) :: q => decide (i = j) && okX x d && partsOkS r q
  | _, _ => false
theorem partsOkS_spec {sz : Nat} (hf : FrRel E N fr a) : ∀ {ps : List (Nat × Operand)} {qs : List (Nat × Opd)}, partsOkS ps qs = true →
    (flatParts sz (evPartsS fr qs)).length = ps.length ∧ ∀ (j : Nat) (q : Nat × Nat × V) (p : Nat × Operand), (flatParts sz (evPartsS fr qs))[j]? = some q → ps[j]? = some p → (q.1 = p.1 * sz ∧ q.2.1 = sz) ∧ Rel E q.2.2 (a.eval p.2)
  | [], [], _ => ⟨rfl, fun j q p hq => by simp [evPartsS, flatParts] at hq⟩
  | (i, x) :: r, (i', d) :: q, h => by
    simp only [partsOkS, Bool.and_eq_true, decide_eq_true_eq] at h
    obtain ⟨⟨h0, h2⟩, h3⟩ := h
    subst h0
    obtain ⟨l1, l2⟩ := partsOkS_spec (sz := sz) hf h3
    refine ⟨by simp [evPartsS, flatParts, l1], fun j y p hy hp => ?_⟩
    cases j with
    | zero =>
      simp [evPartsS, flatParts] at hy hp
      subst hy; subst hp
      exact ⟨⟨rfl, rfl⟩, okX_rel h2 hf⟩
    | succ j => exact l2 j y p (by simpa [evPartsS, flatParts] using hy) (by simpa using hp)
  | [], _ :: _, h => by cases h
  | (_, _) :: _, [], h => by simp [partsOkS] at h

theorem RelL.inRow {cs : List V} {xs : Array Value} (hr : RelL E cs xs) (h1 : ∀ (j : Nat) (x : Value), xs[j]? = some x → x.oneCell' = true) : InRow E cs xs.toList := by
  intro j v hj
  obtain ⟨x, hx, hrx⟩ := hr.get hj
  exact ⟨x, by simpa using hx, hrx, h1 j x hx⟩

theorem step_bsl {t el : TypeId} {len : Nat} {ps : Array (Nat × Operand)} {qs : List (Nat × Opd)} {m : SMode} {sz bytes : Nat} {zero : List V} (ho : o.op = .buildSlice t len ps)
    (hu : P.underlying t = some (.slice el)) (hel : elOk P el sz bytes = true) (hzo : zeroOk P el zero = true) (hsmall : len * sz ≤ 16777216) (hp : partsOkS ps.toList qs = true)
    (hs : Sim E st w) (hf : FrRel E N fr a) (hw : (step (.bsl m sz len zero qs) fr st).wp (ACall P) K) (hc : Cont E st w o a next K) : o.wp P a w next Q := by
  obtain ⟨i, z, hi, hz0, hsz, hby, hszp, hbyp, hzs⟩ := elOk_spec hel
  obtain ⟨i', z', hi', hz0', hsz', hr, hl, h1⟩ := zeroOk_spec hzo
  rw [hi] at hi'; cases hi'
  rw [hz0] at hz0'; cases hz0'
  have hzl : zero.length = sz := by omega
  simp only [step] at hw
  unfold T.opt at hw
  split at hw
  case h_2 => exact hw.elim
  rename_i es hfe
  have hlr : ∀ e ∈ List.replicate len zero, e.length = sz := fun e he => by rw [(List.mem_replicate.1 he).2]; exact hzl
  obtain ⟨f1, f2, f3⟩ := fillElems_flat hlr hfe
  rw [List.length_replicate] at f3
  obtain ⟨l1, l2⟩ := partsOkS_spec (sz := sz) hf hp
  have hmr := made_rel (len := len) (hr E) (by omega)
  have hmo := made_one (n := len * zero.length) h1 (by omega)
  rw [hzl] at hmr hmo
  obtain ⟨zs, hz1, hz2, hz3⟩ := fill_rel (E := E) (fun k => some (k * sz, sz)) [] (flatParts sz (evPartsS fr qs)) (ps.toList.map fun q => (q.1, a.eval q.2)) _ _ _ f1 hmr hmo (by simp [l1]) (fun j q x hq hx => by
    rw [List.getElem?_map] at hx
    cases hpj : ps.toList[j]? with
    | none => rw [hpj] at hx; cases hx
    | some p =>
      rw [hpj] at hx
      simp only [Option.map_some, Option.some.injEq] at hx
      subst hx
      obtain ⟨⟨ho1, ho2⟩, hrel⟩ := l2 j q p hq hpj
      exact ⟨by simp [ho1, ho2], hrel⟩)
  have hzsz : zs.size = len * sz := by rw [hz2.1, flat_len f2, f3]
  obtain ⟨v, st', E', hk, s1, s2, hrel⟩ := newSlice_ok (w' := w.alloc (.cells zs el)) hw hs (fz := (0, 0)) (.inl rfl) rfl ⟨rfl, rfl, rfl⟩ f2 hzsz (by omega) (hz2.inRow hz3)
  refine wp_val (x := .slice (some ⟨w.heap.size, 0, none⟩) len len) ?_ (hc _ _ E' _ _ hk s1 s2 (by rw [← f3]; rw [← f3] at hrel; exact hrel))
  have hparts : (ps.map fun (q : Nat × Operand) => (q.1, a.eval q.2)).toList = ps.toList.map fun q => (q.1, a.eval q.2) := by simp
  simp only [execOp, ho, Instr.buildSlice, Sem.run_bind, run_underlying hu, Result.andThen_ok]
  have hns : ¬ (len * sz > 16777216) := by omega
  by_cases h0 : len * sz = 0
  · have he : len = 0 := by
      rcases Nat.mul_eq_zero.1 h0 with h | h
      · exact h
      · omega
    subst he
    have hm0 : madeCells z.cells (0 * sz) = #[] := by
      apply Array.eq_empty_of_size_eq_zero
      rw [size_madeCells]; omega
    rw [hm0] at hz1
    simp [sizeOf, typeInfo, hi, newRow, hsz, Array.range_zero', hz1]
  · have h00 : ¬ (len = 0 ∨ sz = 0) := by
      rintro (h | h)
      · simp [h] at h0
      · omega
    simp only [madeCells] at hz1
    simp [sizeOf, typeInfo, hi, hsz, hns, zeroValue, hz0, newRow, hz1]
    exact fun h => absurd h h0

/-- 'make'. -/
theorem step_mksl {t el : TypeId} {x y : Operand} {d e : Opd} {m : SMode} {sz bytes : Nat} {zero : List V} (ho : o.op = .makeSlice t x y) (hx : okX x d = true) (hy : okX y e = true)
    (hu : P.underlying t = some (.slice el)) (hel : elOk P el sz bytes = true) (hzo : zeroOk P el zero = true)
    (hs : Sim E st w) (hf : FrRel E N fr a) (hw : (step (.mksl m sz bytes zero d e) fr st).wp (ACall P) K) (hc : Cont E st w o a next K) : o.wp P a w next Q := by
  obtain ⟨i, z, hi, hz0, hsz, hby, hszp, hbyp, hzs⟩ := elOk_spec hel
  obtain ⟨i', z', hi', hz0', hsz', hr, hl, h1⟩ := zeroOk_spec hzo
  rw [hi] at hi'; cases hi'
  rw [hz0] at hz0'; cases hz0'
  have hzl : zero.length = sz := by omega
  have r1 := okX_rel hx hf
  have r2 := okX_rel hy hf
  simp only [step] at hw
  split at hw
  case h_2 => exact hw.elim
  rename_i k p k' q e1 e2
  rw [e1] at r1
  rw [e2] at r2
  have r1 := r1.int
  have r2 := r2.int
  obtain ⟨hck, hw⟩ := hw
  simp only [Bool.and_eq_true, decide_eq_true_eq] at hck
  obtain ⟨⟨h0, hpq⟩, hroom⟩ := hck
  subst hpq
  obtain ⟨hb1, hb2⟩ := room_nat hroom hbyp
  have hbb : (i.bytes : Int) * p ≤ 281474976710656 := by
    have h3 : ((i.bytes * p.toNat : Nat) : Int) ≤ 281474976710656 := by rw [hby, Nat.mul_comm]; omega
    rw [Int.natCast_mul] at h3
    rwa [Int.toNat_of_nonneg h0] at h3
  have hrun := run_make (P := P) w t el i z hu hi hz0 k k' p p h0 (Int.le_refl _) hbb (by omega)
  have hmr := made_rel (len := p.toNat) (hr E) (by omega)
  have hmo := made_one (n := p.toNat * zero.length) h1 (by omega)
  rw [hzl] at hmr hmo
  have hlr : ∀ e ∈ List.replicate p.toNat zero, e.length = sz := fun e he => by rw [(List.mem_replicate.1 he).2]; exact hzl
  rw [hsz] at hrun
  obtain ⟨v, st', E', hk, s1, s2, hrel⟩ := newSlice_ok (w' := w.alloc (.cells (madeCells z.cells (p.toNat * sz)) el)) hw hs (fz := (0, 0)) (.inl rfl) rfl ⟨rfl, rfl, rfl⟩ hlr (cap := p.toNat) (size_madeCells _ _) (by simp) (hmr.inRow hmo)
  rw [List.length_replicate] at hrel
  exact wp_val (x := .slice (some ⟨w.heap.size, 0, none⟩) p.toNat p.toNat) (by simp [execOp, ho, r1, r2, hrun]) (hc _ _ E' _ _ hk s1 s2 hrel)

/-! Bytes. -/
theorem FzOk.mark {fz : Nat × Nat} {n : Nat} (h : FzOk fz n) : FzOk (if fz.1 == fz.2 then (n, n + 1) else (min fz.1 n, max fz.2 (n + 1))) n := by
  obtain ⟨lo, hi⟩ := fz
  simp only [FzOk] at *
  split
  · exact .inr (Nat.le_refl _)
  · rename_i hne
    simp at hne
    rcases h with h | h
    · exact absurd h hne
    · exact .inr (by simp only; omega)
theorem freeze_heap {b n : Nat} {c : Array Value} {t : TypeId} {fz : Nat × Nat} (h : w.heap[b]? = some (.cells c t fz)) :
    (w.freeze ⟨b, n, none⟩ 1).heap[b]? = some (.cells c t (if fz.1 == fz.2 then (n, n + 1) else (min fz.1 n, max fz.2 (n + 1)))) := by
  simp [World.freeze, Array.getElem?_modify, h]
theorem freeze_other {b b' n : Nat} (h : b' ≠ b) : (w.freeze ⟨b, n, none⟩ 1).heap[b']? = w.heap[b']? := by
  simp only [World.freeze]
  simp only [Nat.succ_ne_zero, if_false, Array.getElem?_modify]
  rw [if_neg (fun e => h e.symm)]
theorem freeze_push {ob : Array Value} {t : TypeId} {n : Nat} : ((w.drew.alloc (.cells ob t)).freeze ⟨w.heap.size, n, none⟩ 1).heap = w.heap.push (.cells ob t (n, n + 1)) := by
  apply Array.ext_getElem?
  intro j
  by_cases hj : j = w.heap.size
  · subst hj
    rw [freeze_heap (c := ob) (t := t) (fz := (0, 0)) (by rw [alloc_heap]; simp)]
    simp
  · rw [freeze_other hj, alloc_heap]
    simp only [Array.getElem?_push, if_neg hj]
theorem run_markStringish {b off : Nat} {c : Array Value} {t : TypeId} {fz : Nat × Nat} (h : w.heap[b]? = some (.cells c t fz)) :
    (markStringish ⟨b, off, none⟩).run P w = .ok () (w.freeze ⟨b, c.size, none⟩ 1) := by
  simp [markStringish, shape, freeze, Sem.run, World.shape?, h]

theorem byteCells_len (l : List UInt8) : (byteCells l).length = l.length := by simp [byteCells]
theorem byteCells_sz (l : List UInt8) : ∀ e ∈ byteCells l, e.length = 1 := by
  intro e he
  simp only [byteCells, List.mem_map] at he
  obtain ⟨c, _, rfl⟩ := he
  rfl
theorem byteCells_rel (l : List UInt8) (rest : List Value) : InRow E (byteCells l).flatten (l.map (fun c => Value.int .u8 c.toNat) ++ rest) := by
  intro j v hj
  rw [byteCells_flat, List.getElem?_map] at hj
  cases hc : l[j]? with
  | none => rw [hc] at hj; cases hj
  | some c =>
    rw [hc] at hj
    simp only [Option.map_some, Option.some.injEq] at hj
    subst hj
    have hlt := (List.getElem?_eq_some_iff.1 hc).1
    exact ⟨.int .u8 c.toNat, by rw [List.getElem?_append_left (by simpa using hlt)]; simp [hc], .deep (.i _ _), rfl⟩

theorem step_s2b {t t' el : TypeId} {x : Operand} {d : Opd} {m : SMode} (ho : o.op = .convert t t' x) (hx : okX x d = true) (hus : P.underlying t = some .string) (hu : P.underlying t' = some (.slice el)) (he : P.underlying el = some (.int .u8))
    (hs : Sim E st w) (hf : FrRel E N fr a) (hw : (step (.s2b m d) fr st).wp (ACall P) K) (hc : Cont E st w o a next K) : o.wp P a w next Q := by
  have r1 := okX_rel hx hf
  simp only [step] at hw
  split at hw
  case h_2 => exact hw.elim
  rename_i l e1
  rw [e1] at r1
  have r1 := r1.strv
  have hsz : (str l).size = l.length := by simp [str, ByteArray.size]
  have hge := grownCap_ge w l.length 0 el
  have hcs : ((str l).data.map (fun b => Value.int .u8 b.toNat) ++ Array.replicate (grownCap w l.length 0 el - l.length) (Value.int .u8 0)).toList = l.map (fun c => Value.int .u8 c.toNat) ++ List.replicate (grownCap w l.length 0 el - l.length) (Value.int .u8 0) := by
    simp [str]
  have hsize : ((str l).data.map (fun b => Value.int .u8 b.toNat) ++ Array.replicate (grownCap w l.length 0 el - l.length) (Value.int .u8 0)).size = grownCap w l.length 0 el * 1 := by
    simp [str]; omega
  generalize hcells : ((str l).data.map (fun b => Value.int .u8 b.toNat) ++ Array.replicate (grownCap w l.length 0 el - l.length) (Value.int .u8 0)) = cells at hcs hsize
  obtain ⟨v, st', E', hk, s1, s2, hrel⟩ := newSlice_ok (w' := (w.drew.alloc (.cells cells el)).freeze ⟨w.heap.size, cells.size, none⟩ 1) hw hs (fz := (cells.size, cells.size + 1)) (.inr (Nat.le_refl _)) freeze_push ⟨rfl, rfl, rfl⟩ (byteCells_sz l) (cap := grownCap w l.length 0 el) hsize (by rw [byteCells_len]; exact hge)
    (by rw [hcs]; exact byteCells_rel l _)
  rw [byteCells_len] at hrel
  refine wp_val (x := .slice (some ⟨w.heap.size, 0, none⟩) l.length (grownCap w l.length 0 el)) ?_ (hc _ _ E' _ _ hk s1 s2 hrel)
  have hm := run_markStringish (P := P) (w := w.drew.alloc (.cells cells el)) (b := w.heap.size) (off := 0) (c := cells) (t := el) (fz := (0, 0)) (by rw [alloc_heap]; simp)
  simp only [execOp, ho, r1, convert, Sem.run_bind, run_underlying hus, run_underlying hu, run_underlying he, Result.andThen_ok, Conv.stringToBytes, hsz]
  simp [newRow, Question.forced]
  simp only [grownCap] at hcells
  simp only [grownCap]
  have : Result.andThen ((markStringish ⟨w.heap.size, 0, none⟩).run P (w.drew.alloc (.cells cells el))) (fun _ w' => Result.ok () w') = .ok () ((w.drew.alloc (.cells cells el)).freeze ⟨w.heap.size, cells.size, none⟩ 1) := by rw [hm]; rfl
  simp [hcells, hm]

theorem step_mkb {t el : TypeId} {x : Operand} {d : Opd} (ho : o.op = .convert t t x) (hx : okX x d = true) (hu : P.underlying t = some (.slice el)) (he : P.underlying el = some (.int .u8))
    (hs : Sim E st w) (hf : FrRel E N fr a) (hw : (step (.mkb d) fr st).wp (ACall P) K) (hc : Cont E st w o a next K) : o.wp P a w next Q := by
  have r1 := okX_rel hx hf
  have fin : ∀ {k : Key} {ob : Obj} {ad : Addr} {len cap : Nat} {v : V} {c : Array Value} {ty : TypeId} {fz : Nat × Nat}, st.get k = some ob → w.heap[(E.μ k).blk]? = some (.cells c ty fz) → ad.block = (E.μ k).blk →
      (∀ w' : World, w'.heap[(E.μ k).blk]? = some (.cells c ty (if fz.1 == fz.2 then (c.size, c.size + 1) else (min fz.1 c.size, max fz.2 (c.size + 1)))) → Holds (E.at k) w' (E.μ k) ob) →
      a.eval x = .slice (some ad) len cap → Rel E v (.slice (some ad) len cap) → K (v, st) → o.wp P a w next Q := by
    intro k ob ad len cap v c ty fz hob hb had hh hv hr hk
    obtain ⟨s1, s2⟩ := hs.set (w' := w.freeze ⟨(E.μ k).blk, c.size, none⟩ 1) hob ob (by simp [World.freeze]) (fun b hne => freeze_other hne) rfl rfl rfl (fun j x hx => by
      have := hs.imm _ _ _ hx
      simp only [cellIn, freeze_heap hb]
      simpa [cellIn, hb] using this) (hh _ (freeze_heap hb))
    rw [St.set_self hob] at s1 s2
    refine wp_val (x := .slice (some ad) len cap) ?_ (hc _ _ E _ _ hk s1 s2 hr)
    obtain ⟨b, off, sp⟩ := ad
    simp only at had
    subst had
    simp [execOp, ho, hv, convert, run_underlying hu, run_underlying he, markStringish, shape, freeze, Sem.run, World.shape?, hb]
  simp only [step] at hw
  split at hw
  · rename_i k sz es e1
    rw [e1] at r1
    obtain ⟨ob, hob, hw⟩ := hw
    dsimp only at hw
    split at hw
    case h_2 => exact hw.elim
    generalize hv : a.eval x = y at r1
    cases r1 with
    | deep hd => cases hd
    | tsl _ _ _ ad cap hk hd hbk hh =>
      obtain ⟨c, ty, fz, q1, q2, q3, q4, q5⟩ := hs.obj k _ hob
      exact fin hob q1 hbk.1 (fun w' hw' => ⟨c, ty, _, hw', q2.mark, q3, q4, fun j v hj => by simp at hj⟩) hv (.tsl _ _ _ _ _ hk hd hbk hh) hw
  · rename_i k sz off len e1
    rw [e1] at r1
    obtain ⟨ob, hob, hw⟩ := hw
    dsimp only at hw
    split at hw
    case h_2 => exact hw.elim
    generalize hv : a.eval x = y at r1
    cases r1 with
    | deep hd => cases hd
    | ms _ _ _ _ ad cap hk hcc hh hbk ha =>
      obtain ⟨hl, c, ty, fz, q1, q2, q3, q4, q5⟩ := hs.obj k _ hob
      exact fin hob q1 hbk (fun w' hw' => ⟨hl, c, ty, _, hw', q2.mark, q3, q4, q5⟩) hv (.ms _ _ _ _ _ _ hk hcc hh hbk ha) hw
  · exact hw.elim

theorem bytesOf_cells : ∀ l : List UInt8, bytesOf (byteCells l) = some l
  | [] => rfl
  | c :: r => by
    have := bytesOf_cells r
    simp only [byteCells, List.map_cons, bytesOf] at *
    rw [this]
    simp
theorem bytesOf_spec : ∀ {es : List (List V)} {y : List UInt8}, bytesOf es = some y → ∃ ns : List Int, es = ns.map (fun n => [V.i .u8 n]) ∧ y = ns.map fun n => UInt8.ofNat n.toNat
  | [], y, h => by simp only [bytesOf, Option.some.injEq] at h; subst h; exact ⟨[], rfl, rfl⟩
  | e :: r, y, h => by
    unfold bytesOf at h
    split at h
    · cases ‹_ = []›
    · rename_i n r' heq
      cases heq
      split at h
      · rename_i x hx
        simp only [Option.some.injEq] at h
        subst h
        obtain ⟨ns, h1, h2⟩ := bytesOf_spec hx
        exact ⟨n :: ns, by simp [h1], by simp [h2]⟩
      · cases h
    · cases h
theorem foldl_push : ∀ (ns : List Int) (s : ByteArray), ns.foldl (fun (r : ByteArray) n => r.push (UInt8.ofNat n.toNat)) s = ⟨s.data ++ (ns.map fun n => UInt8.ofNat n.toNat).toArray⟩
  | [], s => by simp
  | n :: r, s => by
    rw [List.foldl_cons, foldl_push r]
    cases s with
    | mk d =>
    apply ByteArray.ext
    apply Array.ext'
    simp [ByteArray.push]

theorem step_b2s {t t' el : TypeId} {x : Operand} {d : Opd} (ho : o.op = .convert t t' x) (hx : okX x d = true) (hu : P.underlying t = some (.slice el)) (he : P.underlying el = some (.int .u8)) (hus : P.underlying t' = some .string)
    (hs : Sim E st w) (hf : FrRel E N fr a) (hw : (step (.b2s d) fr st).wp (ACall P) K) (hc : Cont E st w o a next K) : o.wp P a w next Q := by
  have r1 := okX_rel hx hf
  simp only [step] at hw
  obtain ⟨es, xs, ⟨y, hy, hk⟩, hsh⟩ := elems_ok (P := P) hs r1 hw
  obtain ⟨ns, rfl, rfl⟩ := bytesOf_spec hy
  have hxs : xs = ns.map (Value.int .u8) := by
    apply List.ext_getElem?
    intro j
    have hxl := hsh.xlen
    simp only [List.length_map, Nat.mul_one] at hxl
    by_cases hj : j < ns.length
    · have hfl : (ns.map fun n => [V.i .u8 n]).flatten = ns.map (V.i .u8) := by
        clear hy hk hsh hw hxl hj
        induction ns with
        | nil => rfl
        | cons n r ih => simp [ih]
      obtain ⟨z, hz, hrz, _⟩ := hsh.rel j (.i .u8 ns[j]) (by rw [hfl]; simp [hj])
      rw [hz, hrz.int]
      simp [hj]
    · rw [List.getElem?_eq_none (by omega), List.getElem?_eq_none (by simp; omega)]
  subst hxs
  have hlen := hsh.len w
  have hfc := hsh.first w rfl ns.length (by simp)
  simp only [Nat.mul_one] at hfc
  rw [List.take_of_length_le (by simp)] at hfc
  have hstr : ns.foldl (fun (r : ByteArray) n => r.push (UInt8.ofNat n.toNat)) ByteArray.empty = str (ns.map fun n => UInt8.ofNat n.toNat) := by
    rw [foldl_push]; simp [str]
  refine wp_val (x := .string (str (ns.map fun n => UInt8.ofNat n.toNat))) ?_ (hc.same hs hk (.deep (.s _)))
  simp only [List.length_map] at hlen
  cases hv : a.eval x with
  | slice p len cap =>
    rw [hv] at hlen hfc
    have hl : len = ns.length := by simpa [Builtin.lenOf] using hlen
    subst hl
    cases p with
    | none =>
      simp [Builtin.firstCells] at hfc
      have h0 : ns = [] := by
        cases ns with
        | nil => rfl
        | cons n r => simp at hfc
      subst h0
      simp [execOp, ho, hv, convert, run_underlying hu, run_underlying he, run_underlying hus, Conv.bytesToString]
      rfl
    | some ad =>
      simp [Builtin.firstCells] at hfc
      have hb := run_bytesToString (P := P) w ad ns.length cap ns (by simpa using hfc)
      rw [hstr] at hb
      simp [execOp, ho, hv, convert, run_underlying hu, run_underlying he, run_underlying hus, hb]
  | string s =>
    rw [hv] at r1 hlen hfc
    have hsn : s.size = ns.length := by simpa [Builtin.lenOf] using hlen
    simp only [Builtin.firstCells, Sem.run_pure, Result.ok.injEq, and_true] at hfc
    have : s = str (ns.map fun n => UInt8.ofNat n.toNat) := by
      have h2 := congrArg Array.toList hfc
      simp only [Array.toList_map, ByteArray.data_extract] at h2
      cases s with
      | mk da =>
      have h3 : (da.extract 0 ns.length) = da := by
        have : da.size = ns.length := hsn
        rw [← this]; simp
      simp only [h3] at h2
      apply ByteArray.ext
      apply Array.ext'
      simp only [str]
      apply List.ext_getElem?
      intro j
      have h4 := congrArg (fun l => l[j]?) h2
      simp only [List.getElem?_map] at h4
      rw [List.getElem?_map]
      cases h5 : da.toList[j]? with
      | none =>
        rw [h5] at h4
        cases h6 : ns[j]? with
        | none => rfl
        | some n => rw [h6] at h4; cases h4
      | some b =>
        rw [h5] at h4
        cases h6 : ns[j]? with
        | none => rw [h6] at h4; cases h4
        | some n =>
          rw [h6] at h4
          simp only [Option.map_some, Option.some.injEq, Value.int.injEq, true_and] at h4
          rw [← h4]
          simp
    subst this
    simp [execOp, ho, hv, convert, run_underlying hu, run_underlying hus]
  | _ => rw [hv] at hlen; simp [Builtin.lenOf, stuck] at hlen
end
end Go.Eng
