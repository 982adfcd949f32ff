/-
Each operation of the model does what the abstract step says (part three: lengths, nil, cells loaded and stored, new objects).
-/
import Derived.Test.YtfobkjdmohaakaaGreatEngOps2
namespace Go.Eng
open Go

/-! Cells, many at once. -/
def CellsAt (E : Env) (w : World) (b o : Nat) (cs : List V) : Prop :=
  ∀ j v, cs[j]? = some v → ∃ x, cellIn w b (o + j) = some x ∧ Rel E v x ∧ x.oneCell' = true

theorem RelD.one {I : Imm} {v : V} {x : Value} (h : RelD I v x) : x.oneCell' = true := by cases h <;> rfl

theorem CellsAt.mono {E F : Env} (h : E.Le F) {w : World} {b o : Nat} {cs : List V} (hc : CellsAt E w b o cs) : CellsAt F w b o cs :=
  fun j v hj => let ⟨x, a, c, d⟩ := hc j v hj; ⟨x, a, c.mono h, d⟩
theorem CellsAt.sub {E : Env} {w : World} {b o : Nat} {cs : List V} (hc : CellsAt E w b o cs) (off n : Nat) : CellsAt E w b (o + off) ((cs.drop off).take n) := by
  intro j v hj
  rw [List.getElem?_take] at hj
  split at hj
  · rw [List.getElem?_drop] at hj
    rw [Nat.add_assoc]
    exact hc _ v hj
  · cases hj
theorem RowOf.cellsAt {E : Env} {w : World} {L : Loc} {cs : List V} (h : RowOf E w L cs) : CellsAt E w L.blk L.base cs := by
  obtain ⟨cells, t, fz, h1, _, _, _, h5⟩ := h
  intro j v hj
  obtain ⟨x, hx, hr, ho⟩ := h5 j v hj
  exact ⟨x, by simp [cellIn, h1, hx], hr, ho⟩
theorem Sim.immAt {E : Env} {st : St} {w : World} (h : Sim E st w) {cs : List V} {b o : Nat} {val : Nat → Value} (hv : ∀ j d, cs[j]? = some d → E.I b (o + j) = some (val j))
    (hr : ∀ j d, cs[j]? = some d → RelD E.I d (val j)) : CellsAt E w b o cs :=
  fun j v hj => ⟨val j, h.imm _ _ _ (hv j v hj), .deep (hr j v hj), (hr j v hj).one⟩

/-- The values of a run of cells. -/
theorem CellsAt.list {E : Env} {w : World} {b : Nat} : ∀ {cs : List V} {o : Nat}, CellsAt E w b o cs →
    ∃ xs : List Value, xs.length = cs.length ∧ w.rangeAt b o xs ∧ RelL E cs xs.toArray ∧ ∀ x ∈ xs, x.oneCell' = true := by
  intro cs
  induction cs with
  | nil => exact fun _ => ⟨[], rfl, fun j v hj => by simp at hj, ⟨rfl, fun j v x hj => by simp at hj⟩, fun x hx => by simp at hx⟩
  | cons v r ih =>
    intro o h
    obtain ⟨x, hx, hr, ho⟩ := h 0 v rfl
    obtain ⟨xs, h1, h2, h3, h4⟩ := ih (o := o + 1) (fun j u hj => by
      have := h (j + 1) u (by simpa using hj)
      rw [show o + 1 + j = o + (j + 1) by omega]; exact this)
    refine ⟨x :: xs, by simp [h1], ?_, ⟨by simp [h1], ?_⟩, ?_⟩
    · intro j u hj
      cases j with
      | zero =>
        simp at hj
        subst hj
        rw [cell?_eq]; exact hx
      | succ j =>
        have := h2 j u (by simpa using hj)
        rw [show o + (j + 1) = o + 1 + j by omega]; exact this
    · intro j u y hj hy
      cases j with
      | zero =>
        simp at hj hy
        subst hj; subst hy; exact hr
      | succ j => exact h3.2 j u y (by simpa using hj) (by simpa using hy)
    · intro y hy
      cases hy with
      | head => exact ho
      | tail _ hy => exact h4 y hy

theorem run_load_cells {P : Program} {E : Env} {w : World} {t : TypeId} {n : Option Nat} (hn : szOk P t n = true) {b o : Nat} {cs : List V} (h : CellsAt E w b o cs) {off : Nat} {v : V}
    (hv : ldCells cs off n = some v) : ∃ x, (loadVar t ⟨b, o + off, none⟩).run P w = .ok x w ∧ Rel E v x := by
  unfold szOk at hn
  split at hn
  · rename_i d hd
    obtain ⟨x, hx, hr, _⟩ := h off v hv
    refine ⟨x, ?_, hr⟩
    have hf : d.isRow = false := by simpa using hn
    have hc : w.cell? ⟨b, o + off, none⟩ = some x := by rw [cell?_eq]; exact hx
    simp [loadVar, run_isAgg hd, hf, load, Sem.run, hc]
  · rename_i k d hd
    simp only [Bool.and_eq_true, beq_iff_eq] at hn
    obtain ⟨hl, rfl⟩ := CellsOf_get hv
    obtain ⟨xs, h1, h2, h3, h4⟩ := (h.sub off k).list
    have hk : xs.length = k := by rw [h1]; simp; omega
    refine ⟨.agg xs.toArray, run_loadVar_mid w b (o + off) t xs d h2 hd hn.1 (by rw [hn.2, hk]), .agg _ _ h3.1 ?_ h3.2⟩
    intro j x hx
    exact h4 x (List.mem_of_getElem? (i := j) (by simpa using hx))
  · cases hn

/-! Writing cells. -/
def stArr : Array Value → Nat → List Value → Array Value
  | c, _, [] => c
  | c, o, v :: r => stArr (c.setIfInBounds o v) (o + 1) r
theorem stArr_size : ∀ (vs : List Value) (c : Array Value) (o : Nat), (stArr c o vs).size = c.size
  | [], _, _ => rfl
  | v :: r, c, o => by rw [stArr, stArr_size r]; simp
theorem stArr_get : ∀ (vs : List Value) (c : Array Value) (o j : Nat), o + vs.length ≤ c.size →
    (stArr c o vs)[j]? = if o ≤ j ∧ j < o + vs.length then vs[j - o]? else c[j]?
  | [], c, o, j, _ => by simp [stArr]; omega
  | v :: r, c, o, j, h => by
    simp only [List.length_cons] at h
    rw [stArr, stArr_get r _ _ _ (by simp; omega)]
    by_cases h1 : j = o
    · subst h1
      rw [if_neg (by omega), if_pos (by simp)]
      simp [show j < c.size by omega]
    · by_cases h2 : o + 1 ≤ j ∧ j < o + 1 + r.length
      · rw [if_pos h2, if_pos (by simp; omega)]
        rw [show j - o = (j - (o + 1)) + 1 by omega]
        simp
      · rw [if_neg h2, if_neg (by simp; omega)]
        rw [Array.getElem?_setIfInBounds_ne (fun e => h1 e.symm)]
theorem stCells_length : ∀ (vs cs : List V) (o : Nat), (stCells cs o vs).length = cs.length
  | [], _, _ => rfl
  | v :: r, c, o => by rw [stCells, stCells_length r]; simp
theorem stCells_get : ∀ (vs cs : List V) (o j : Nat), o + vs.length ≤ cs.length →
    (stCells cs o vs)[j]? = if o ≤ j ∧ j < o + vs.length then vs[j - o]? else cs[j]?
  | [], c, o, j, _ => by simp [stCells]; omega
  | v :: r, c, o, j, h => by
    simp only [List.length_cons] at h
    rw [stCells, stCells_get r _ _ _ (by simp; omega)]
    by_cases h1 : j = o
    · subst h1
      rw [if_neg (by omega), if_pos (by simp)]
      simp [show j < c.length by omega]
    · by_cases h2 : o + 1 ≤ j ∧ j < o + 1 + r.length
      · rw [if_pos h2, if_pos (by simp; omega)]
        rw [show j - o = (j - (o + 1)) + 1 by omega]
        simp
      · rw [if_neg h2, if_neg (by simp; omega)]
        rw [List.getElem?_set_ne (fun e => h1 e.symm)]

theorem setCells_heap (b : Nat) : ∀ (vs : List Value) (o : Nat) (w : World) {c : Array Value} {t : TypeId} {fz : Nat × Nat}, w.heap[b]? = some (.cells c t fz) →
    (w.setCells b o vs).heap[b]? = some (.cells (stArr c o vs) t fz)
  | [], _, _, _, _, _, h => h
  | v :: r, o, w, c, t, fz, h => by
    refine setCells_heap b r (o + 1) _ ?_
    simp only [World.setCell, Array.getElem?_modify, h, if_true, Option.map_some]
    rfl
theorem setCells_other (b : Nat) {k : Nat} (hk : k ≠ b) : ∀ (vs : List Value) (o : Nat) (w : World), (w.setCells b o vs).heap[k]? = w.heap[k]?
  | [], _, _ => rfl
  | v :: r, o, w => by
    rw [World.setCells, setCells_other b hk r]
    simp only [World.setCell, Array.getElem?_modify]
    rw [if_neg (by omega)]
theorem setCells_rest (b : Nat) : ∀ (vs : List Value) (o : Nat) (w : World), (w.setCells b o vs).heap.size = w.heap.size ∧ (w.setCells b o vs).os = w.os ∧ (w.setCells b o vs).output = w.output ∧ (w.setCells b o vs).tape = w.tape
  | [], _, _ => ⟨rfl, rfl, rfl, rfl⟩
  | v :: r, o, w => by
    obtain ⟨h1, h2, h3, h4⟩ := setCells_rest b r (o + 1) (w.setCell ⟨b, o, none⟩ v)
    exact ⟨h1.trans (by simp [World.setCell]), h2, h3, h4⟩

theorem Fz.free {w : World} {b : Nat} {c : Array Value} {t : TypeId} {fz : Nat × Nat} (hb : w.heap[b]? = some (.cells c t fz)) (hf : FzOk fz c.size) {j : Nat} (hj : j < c.size) : w.frozen? ⟨b, j, none⟩ = false := by
  obtain ⟨lo, hi⟩ := fz
  simp only [World.frozen?, hb, Bool.and_eq_false_iff, decide_eq_false_iff_not]
  rcases hf with h | h
  · simp only at h; omega
  · simp only at h; omega
theorem Row.there {w : World} {b : Nat} {c : Array Value} {t : TypeId} {fz : Nat × Nat} (hb : w.heap[b]? = some (.cells c t fz)) (hf : FzOk fz c.size) {o n : Nat} (hn : o + n ≤ c.size) : w.there b o n := by
  intro j hj
  refine ⟨?_, Fz.free hb hf (by omega)⟩
  rw [cell?_eq]
  simp only [cellIn, hb]
  simp [show o + j < c.size by omega]

/-- (W) An object's own cells are written. -/
theorem Sim.write {E : Env} {st : St} {w : World} (h : Sim E st w) {k : Key} {o0 : Obj} (hk : st.get k = some o0) {cells : Array Value} {t : TypeId} {fz : Nat × Nat}
    (hb : w.heap[(E.μ k).blk]? = some (.cells cells t fz)) (hfin : (E.μ k).fin ≤ cells.size) {pos : Nat} {xs : List Value} (h1 : (E.μ k).base ≤ pos) (h2 : pos + xs.length ≤ (E.μ k).fin) (o' : Obj)
    (ho' : Holds (E.at k) (w.setCells (E.μ k).blk pos xs) (E.μ k) o') :
    Sim E (st.set k o') (w.setCells (E.μ k).blk pos xs) ∧ Ext E st w E (st.set k o') (w.setCells (E.μ k).blk pos xs) := by
  obtain ⟨r1, r2, r3, r4⟩ := setCells_rest (E.μ k).blk xs pos w
  refine h.set hk o' r1 (fun b hne => setCells_other _ hne _ _ _) r2 r3 r4 ?_ ho'
  intro j x hx
  have hI := h.imm _ _ _ hx
  simp only [cellIn, hb, setCells_heap _ xs pos w hb] at hI ⊢
  rw [stArr_get _ _ _ _ (by omega)]
  by_cases hin : pos ≤ j ∧ j < pos + xs.length
  · have := h.own k ⟨o0, hk⟩ j (by omega) (by omega)
    rw [this] at hx; cases hx
  · rw [if_neg hin]; exact hI

/-- The row behind a write. -/
theorem RowOf.written {E : Env} {w : World} {L : Loc} {cs : List V} {cells : Array Value} {t : TypeId} {fz : Nat × Nat} (hb : w.heap[L.blk]? = some (.cells cells t fz)) (hf : FzOk fz cells.size)
    (h1 : L.base + cs.length ≤ L.fin) (h2 : L.fin ≤ cells.size) (h3 : ∀ j v, cs[j]? = some v → ∃ x, cells[L.base + j]? = some x ∧ Rel E v x ∧ x.oneCell' = true)
    {off : Nat} {vs : List V} {xs : List Value} (hr : RelL E vs xs.toArray) (ho : ∀ x ∈ xs, x.oneCell' = true) (hin : off + vs.length ≤ cs.length) :
    RowOf E (w.setCells L.blk (L.base + off) xs) L (stCells cs off vs) := by
  have hl : xs.length = vs.length := by simpa using hr.1
  refine ⟨_, t, fz, setCells_heap _ xs _ w hb, by rw [stArr_size]; exact hf, by rw [stCells_length]; exact h1, by rw [stArr_size]; exact h2, ?_⟩
  intro j v hj
  rw [stCells_get _ _ _ _ hin] at hj
  rw [stArr_get _ _ _ _ (by omega)]
  by_cases hc : off ≤ j ∧ j < off + vs.length
  · rw [if_pos hc] at hj
    rw [if_pos (by omega)]
    obtain ⟨x, hx, hrx⟩ := hr.get hj
    rw [show L.base + j - (L.base + off) = j - off by omega]
    exact ⟨x, by simpa using hx, hrx, ho x (List.mem_of_getElem? (i := j - off) (by simpa using hx))⟩
  · rw [if_neg hc] at hj
    rw [if_neg (by omega)]
    exact h3 j v hj

section
variable {P : Program} {o : Oper} {a : Act} {E : Env} {N : Nat} {st : St} {w : World} {fr : Fr} {next : Act → World → Prop} {Q : Exit → Act → World → Prop} {K : R → Prop}

/-- The row of an object's cells. -/
theorem Sim.cs {k : Key} {c : List V} (hs : Sim E st w) (hk : st.get k = some (.cs c)) : RowOf (E.at k) w (E.μ k) c := (hs.obj k _ hk).2
theorem Sim.csBase {k : Key} {c : List V} (hs : Sim E st w) (hk : st.get k = some (.cs c)) : (E.μ k).base = 0 := (hs.obj k _ hk).1
theorem Env.at_μ (E : Env) (k : Key) : (E.at k).μ = E.μ := by cases k <;> rfl

theorem flat_get {sz : Nat} : ∀ {es : List (List V)}, (∀ e ∈ es, e.length = sz) → ∀ {ix j : Nat} {e : List V}, es[ix]? = some e → j < sz → es.flatten[ix * sz + j]? = e[j]? := by
  intro es
  induction es with
  | nil => intro _ ix j e h; simp at h
  | cons d r ih =>
    intro hl ix j e h hj
    have hd : d.length = sz := hl d (.head _)
    rw [List.flatten_cons]
    cases ix with
    | zero =>
      simp at h
      subst h
      rw [Nat.zero_mul, Nat.zero_add, List.getElem?_append_left (by omega)]
    | succ ix =>
      rw [List.getElem?_append_right (by rw [hd, Nat.succ_mul]; omega), hd]
      rw [show (ix + 1) * sz + j - sz = ix * sz + j by rw [Nat.succ_mul]; omega]
      exact ih (fun e he => hl e (.tail _ he)) (by simpa using h) hj
theorem flat_len {sz : Nat} : ∀ {es : List (List V)}, (∀ e ∈ es, e.length = sz) → es.flatten.length = es.length * sz := by
  intro es
  induction es with
  | nil => intro _; simp
  | cons d r ih =>
    intro hl
    rw [List.flatten_cons, List.length_append, ih (fun e he => hl e (.tail _ he)), hl d (.head _), List.length_cons, Nat.succ_mul]
    omega
theorem flat_take {sz : Nat} : ∀ {es : List (List V)}, (∀ e ∈ es, e.length = sz) → ∀ n, (es.take n).flatten = es.flatten.take (n * sz) := by
  intro es
  induction es with
  | nil => intro _ n; simp
  | cons d r ih =>
    intro hl n
    have hd : d.length = sz := hl d (.head _)
    cases n with
    | zero => simp
    | succ n =>
      rw [List.take_succ_cons, List.flatten_cons, List.flatten_cons, ih (fun e he => hl e (.tail _ he)), List.take_append, hd, Nat.succ_mul]
      rw [List.take_of_length_le (l := d) (by omega), show n * sz + sz - sz = n * sz by omega]
theorem flat_drop {sz : Nat} : ∀ {es : List (List V)}, (∀ e ∈ es, e.length = sz) → ∀ n, (es.drop n).flatten = es.flatten.drop (n * sz) := by
  intro es
  induction es with
  | nil => intro _ n; simp
  | cons d r ih =>
    intro hl n
    have hd : d.length = sz := hl d (.head _)
    cases n with
    | zero => simp
    | succ n =>
      rw [List.drop_succ_cons, List.flatten_cons, ih (fun e he => hl e (.tail _ he)), List.drop_append, hd, Nat.succ_mul]
      have h0 : d.drop (n * sz + sz) = [] := List.drop_eq_nil_of_le (by omega)
      rw [h0, List.nil_append, show n * sz + sz - sz = n * sz by omega]
theorem elem_at {w : World} {b base sz : Nat} {es : List (List V)} (hl : ∀ e ∈ es, e.length = sz) (h : CellsAt E w b base es.flatten) {ix : Nat} {e : List V} (he : es[ix]? = some e) :
    CellsAt E w b (base + ix * sz) e := by
  intro j v hj
  have hj' : j < sz := by
    have := (List.getElem?_eq_some_iff.1 hj).1
    rw [hl e (List.mem_of_getElem? he)] at this; exact this
  rw [Nat.add_assoc]
  exact h _ v (by rw [flat_get hl he hj']; exact hj)

theorem step_load {t : TypeId} {x : Operand} {d : Opd} {n : Option Nat} (ho : o.op = .load t x) (hx : okX x d = true) (hn : szOk P t n = true) (hs : Sim E st w) (hf : FrRel E N fr a)
    (hw : (step (.load n d) fr st).wp (ACall P) K) (hc : Cont E st w o a next K) : o.wp P a w next Q := by
  have h1 := okX_rel hx hf
  have fin : ∀ {b c : Nat} {cs : List V} {off : Nat} {v : V}, a.eval x = .pointer (some ⟨b, c + off, none⟩) → CellsAt E w b c cs → ldCells cs off n = some v → K (v, st) → o.wp P a w next Q := by
    intro b c cs off v hp hcs hv hk
    obtain ⟨z, hz1, hz2⟩ := run_load_cells (P := P) hn hcs hv
    exact wp_val (x := z) (by simp [execOp, ho, hp, Instr.loadAt, Instr.sureAddr, hz1]) (hc.same hs hk hz2)
  simp only [step] at hw
  split at hw
  · rename_i k off e1
    rw [e1] at h1
    generalize hy : a.eval x = y at h1
    cases h1 with
    | deep hd => cases hd
    | p _ _ hk =>
      obtain ⟨ob, hob, hw⟩ := hw
      dsimp only at hw
      split at hw
      · rename_i c
        unfold T.opt at hw
        split at hw
        · rename_i v hv
          exact fin hy ((hs.cs hob).cellsAt.mono (E.at_le k)) hv hw
        · exact hw.elim
      · exact hw.elim
  · rename_i k sz ix off e1
    rw [e1] at h1
    generalize hy : a.eval x = y at h1
    cases h1 with
    | deep hd => cases hd
    | pa _ _ _ _ hk =>
      obtain ⟨ob, hob, hw⟩ := hw
      dsimp only at hw
      split at hw
      · rename_i sz' es
        split at hw
        · rename_i hz
          subst hz
          obtain ⟨e, he, hw⟩ := hw
          dsimp only at hw
          unfold T.opt at hw
          split at hw
          · rename_i v hv
            have hrow := hs.obj k _ hob
            have := elem_at hrow.1 (hrow.2.cellsAt.mono (E.at_le k)) he
            exact fin hy this hv hw
          · exact hw.elim
        · exact hw.elim
      · exact hw.elim
  · rename_i cs off e1
    rw [e1] at h1
    generalize hy : a.eval x = y at h1
    cases h1 with
    | deep hd => cases hd
    | pc _ _ blk c0 val hv hr =>
      unfold T.opt at hw
      split at hw
      · rename_i v hv'
        exact fin hy (hs.immAt hv hr) hv' hw
      · exact hw.elim
  · exact hw.elim
end
end Go.Eng
