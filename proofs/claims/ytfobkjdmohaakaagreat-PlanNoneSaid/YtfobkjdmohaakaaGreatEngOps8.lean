/-
Each operation of the model does what the abstract step says (part eight: append).
-/
import Derived.Test.YtfobkjdmohaakaaGreatEngOps7
namespace Go.Eng
open Go

/-- The element type: its size, its bytes, its zero value. -/
def elOk (P : Program) (el : TypeId) (sz bytes : Nat) : Bool :=
  match P.info? el with
  | some i => decide (i.size = sz) && decide (i.bytes = bytes) && decide (0 < sz) && decide (0 < bytes) && (match i.zero with
    | some z => decide (z.cells.size = sz)
    | none => false)
  | none => false
theorem elOk_spec {P : Program} {el : TypeId} {sz bytes : Nat} (h : elOk P el sz bytes = true) :
    ∃ i z, P.info? el = some i ∧ i.zero = some z ∧ i.size = sz ∧ i.bytes = bytes ∧ 0 < sz ∧ 0 < bytes ∧ z.cells.size = sz := by
  unfold elOk at h
  split at h
  · rename_i i hi
    simp only [Bool.and_eq_true, decide_eq_true_eq] at h
    obtain ⟨⟨⟨⟨h1, h2⟩, h3⟩, h4⟩, h5⟩ := h
    split at h5
    · rename_i z hz
      exact ⟨i, z, hi, hz, h1, h2, h3, h4, by simpa using h5⟩
    · cases h5
  · cases h

theorem inRow_append {E : Env} {as bs : List V} {ys xs : List Value} (ha : InRow E as ys) (hl : ys.length = as.length) (hb : InRow E bs xs) (rest : List Value) : InRow E (as ++ bs) (ys ++ xs ++ rest) := by
  intro j v hj
  rw [List.getElem?_append] at hj
  split at hj
  · rename_i hlt
    obtain ⟨x, hx, h⟩ := ha j v hj
    refine ⟨x, ?_, h⟩
    rw [List.append_assoc, List.getElem?_append_left (by omega)]
    exact hx
  · rename_i hlt
    obtain ⟨x, hx, h⟩ := hb _ v hj
    have hlt' := (List.getElem?_eq_some_iff.1 hx).1
    refine ⟨x, ?_, h⟩
    rw [List.getElem?_append_left (by rw [List.length_append]; omega), List.getElem?_append_right (by omega), hl]
    exact hx
theorem inRowD_append {I : Imm} {as bs : List V} {ys xs : List Value} (ha : InRowD I as ys) (hl : ys.length = as.length) (hb : InRowD I bs xs) (rest : List Value) : InRowD I (as ++ bs) (ys ++ xs ++ rest) := by
  intro j v hj
  rw [List.getElem?_append] at hj
  split at hj
  · rename_i hlt
    obtain ⟨x, hx, h⟩ := ha j v hj
    refine ⟨x, ?_, h⟩
    rw [List.append_assoc, List.getElem?_append_left (by omega)]
    exact hx
  · rename_i hlt
    obtain ⟨x, hx, h⟩ := hb _ v hj
    have hlt' := (List.getElem?_eq_some_iff.1 hx).1
    refine ⟨x, ?_, h⟩
    rw [List.getElem?_append_left (by rw [List.length_append]; omega), List.getElem?_append_right (by omega), hl]
    exact hx
theorem InRow.deep {E : Env} {cs ds : List V} {xs : List Value} (h : deeps cs = some ds) (hr : InRow E cs xs) : InRowD E.I ds xs := by
  intro j d hj
  obtain ⟨v, hv, hvd⟩ := (deeps_spec h).2 j d hj
  obtain ⟨x, hx, hrx, _⟩ := hr j v hv
  exact ⟨x, hx, deep_rel hvd hrx⟩
/-- What a row holds, of what may lie there. -/
theorem InRow.own {E : Env} {g : Bool} {cs ds : List V} {xs : List Value} (h : ownG g cs = some ds) (hl : xs.length = cs.length) (hr : InRow E cs xs) : InRow (E.ofG g) ds xs := by
  have hrl : RelL E cs xs.toArray := ⟨by simpa using hl, fun j v y hj hy => by
    obtain ⟨z, hz, hrz, _⟩ := hr j v hj
    have : xs[j]? = some y := by simpa using hy
    rw [this] at hz; cases hz; exact hrz⟩
  have h2 := ownG_rel h hrl
  intro j d hj
  have hlt : j < cs.length := by rw [← ownG_len h]; exact (List.getElem?_eq_some_iff.1 hj).1
  obtain ⟨x, hx, _, h1⟩ := hr j _ (List.getElem?_eq_getElem hlt)
  exact ⟨x, hx, h2.2 j d x hj (by simpa using hx), h1⟩
theorem InRow.relL {E : Env} {cs : List V} {xs : List Value} (hl : xs.length = cs.length) (hr : InRow E cs xs) : RelL E cs xs.toArray := ⟨by simpa using hl, fun j v y hj hy => by
    obtain ⟨z, hz, hrz, _⟩ := hr j v hj
    have : xs[j]? = some y := by simpa using hy
    rw [this] at hz; cases hz; exact hrz⟩
theorem InRow.mono {E F : Env} (h : E.Le F) {cs : List V} {xs : List Value} (hr : InRow E cs xs) : InRow F cs xs :=
  fun j v hj => let ⟨x, a, c, d⟩ := hr j v hj; ⟨x, a, c.mono h, d⟩

section
variable {P : Program} {o : Oper} {a : Act} {E : Env} {N : Nat} {st : St} {w : World} {fr : Fr} {next : Act → World → Prop} {Q : Exit → Act → World → Prop} {K : R → Prop}

theorem exec_append {s x : Operand} {ts : Array TypeId} {v : Value} {w' : World} (ho : o.op = .call { callee := .builtin .append, args := #[s, x], argTypes := ts })
    (h : (Builtin.append_ ts o.type #[a.eval s, a.eval x]).run P w = .ok v w') : (execOp a.eval o).run P w = .ok (.value v) w' := by
  simp [execOp, ho, resolve, invoke, builtin, h, Result.andThen]

theorem room_nat {n bytes : Nat} (h : roomOk n bytes = true) (hb : 0 < bytes) : n * bytes ≤ 140737488355328 ∧ n ≤ 9223372036854775807 := by
  have h1 : n * bytes ≤ 140737488355328 := by simpa [roomOk] using h
  have h2 : n * 1 ≤ n * bytes := Nat.mul_le_mul_left _ hb
  exact ⟨h1, by omega⟩

theorem Sim.drew (hs : Sim E st w) : Sim E st w.drew := Sim.of_heap (w := w) (w' := w.drew) rfl hs

theorem cells_three {ys xs : List Value} {z : Array Value} {n : Nat} : (ys.toArray ++ xs.toArray ++ Builtin.zeroCells z n).toList = ys ++ xs ++ (Builtin.zeroCells z n).toList := by simp
theorem size_three {ys xs : List Value} {z : Array Value} {n sz p q cap : Nat} (h1 : ys.length = p * sz) (h2 : xs.length = q * sz) (hz : z.size = sz) (hn : n = cap - (p + q)) (hc : p + q ≤ cap) :
    (ys.toArray ++ xs.toArray ++ Builtin.zeroCells z n).size = cap * sz := by
  have hs : ys.toArray.size + xs.toArray.size = (p + q) * sz := by rw [List.size_toArray, List.size_toArray, h1, h2, Nat.add_mul]
  rw [Array.size_append, Array.size_append, size_zeroCells, hz, hs, hn, ← Nat.add_mul]
  congr 1; omega

theorem alloc_heap (w : World) (ob : Go.Obj) : (w.drew.alloc ob).heap = w.heap.push ob := rfl
theorem alloc_out (w : World) (ob : Go.Obj) : SameOut w (w.drew.alloc ob) := ⟨rfl, rfl, rfl⟩

/-- Elements put over others. -/
theorem set_els {sz : Nat} {es ds : List (List V)} (hl : ∀ e ∈ es, e.length = sz) (hd : ∀ e ∈ ds, e.length = sz) {p : Nat} (hin : p + ds.length ≤ es.length) :
    (es.take p ++ ds ++ es.drop (p + ds.length)).flatten = stCells es.flatten (p * sz) ds.flatten := by
  have hfe := flat_len hl
  have hfd := flat_len hd
  have hmul : (p + ds.length) * sz ≤ es.length * sz := Nat.mul_le_mul_right _ hin
  rw [Nat.add_mul] at hmul
  rw [List.flatten_append, List.flatten_append, flat_take hl, flat_drop hl, Nat.add_mul]
  apply List.ext_getElem?
  intro j
  rw [stCells_get _ _ _ _ (by omega)]
  have hlt : (es.flatten.take (p * sz)).length = p * sz := by rw [List.length_take]; omega
  by_cases h1 : j < p * sz
  · rw [List.getElem?_append_left (by rw [List.length_append, hlt]; omega), List.getElem?_append_left (by omega), if_neg (by omega), List.getElem?_take, if_pos h1]
  · by_cases h2 : j < p * sz + ds.flatten.length
    · rw [if_pos (by omega), List.getElem?_append_left (by rw [List.length_append, hlt]; omega), List.getElem?_append_right (by omega), hlt]
    · rw [if_neg (by omega), List.getElem?_append_right (by rw [List.length_append, hlt]; omega), List.length_append, hlt, List.getElem?_drop]
      congr 1; omega

theorem step_append {s x : Operand} {d e : Opd} {ts : Array TypeId} {t el : TypeId} {m : SMode} {sz bytes : Nat} (ho : o.op = .call { callee := .builtin .append, args := #[s, x], argTypes := ts })
    (ht : ts[0]? = some t) (hu : P.underlying t = some (.slice el)) (hel : elOk P el sz bytes = true) (hz : notInt P ts[1]? = true) (hx : okX s d = true) (hy : okX x e = true)
    (hs : Sim E st w) (hf : FrRel E N fr a) (hw : (step (.append m sz bytes d e) fr st).wp (ACall P) K) (hc : Cont E st w o a next K) : o.wp P a w next Q := by
  obtain ⟨i, z, hi, hz0, hsz, hby, hszp, hbyp, hzs⟩ := elOk_spec hel
  subst hsz
  subst hby
  have hr1 := okX_rel hx hf
  have hr2 := okX_rel hy hf
  simp only [step] at hw
  obtain ⟨new, xs, hw, hsh⟩ := elems_ok (P := P) hs hr2 hw
  have hfl := flat_len hsh.elen
  have hfc : (Builtin.firstCells i.size new.length (a.eval x)).run P w = .ok xs.toArray w := by
    have := hsh.first w rfl new.length (Nat.le_refl _)
    rwa [← hsh.xlen, List.take_length] at this
  have hfcd : (Builtin.firstCells i.size new.length (a.eval x)).run P w.drew = .ok xs.toArray w.drew := by
    have := hsh.first w.drew rfl new.length (Nat.le_refl _)
    rwa [← hsh.xlen, List.take_length] at this
  have hfc0 : (Builtin.firstCells i.size 0 (a.eval x)).run P w = .ok #[] w := by
    have := hsh.first w rfl 0 (Nat.zero_le _)
    simpa using this
  have hlen := hsh.len w
  unfold doAppend at hw
  split at hw
  · -- nil
    rename_i e1
    rw [e1] at hr1
    have hsv : a.eval s = .slice none 0 0 := by
      generalize a.eval s = y at hr1
      cases hr1 with
      | deep hd => cases hd; rfl
    split at hw
    · refine wp_val (x := .slice none 0 0) (exec_append ho ?_) (hc.same hs hw (.deep .nils))
      rw [hsv]
      exact run_append_none ht hu hi hz hlen hfc0 none 0 0 (Nat.le_refl _)
    · rename_i e0 r0
      obtain ⟨hroom, hw⟩ := hw
      obtain ⟨hb1, hb2⟩ := room_nat hroom hbyp
      have hrun := run_append_new (ty := o.type) (ys := []) ht hu hi hz0 hz hlen hfcd none 0 0 (by simp [Builtin.firstCells]) (by simp) (by simpa using hb1) (by simpa using hb2)
      rw [Nat.zero_add] at hrun
      have hge := grownCap_ge w (e0 :: r0).length 0 el
      have hsize := size_three (ys := []) (xs := xs) (z := z.cells) (n := grownCap w (e0 :: r0).length 0 el - (e0 :: r0).length) (p := 0) (q := (e0 :: r0).length) (cap := grownCap w (e0 :: r0).length 0 el) (by simp) hsh.xlen hzs (by simp) (by simpa using hge)
      obtain ⟨v, st', E', hk, s1, s2, hrel⟩ := newSlice_ok (w' := w.drew.alloc _) hw hs (fz := (0, 0)) (.inl rfl) (alloc_heap w _) (alloc_out w _) hsh.elen hsize hge
        (by rw [cells_three]; exact inRow_append (as := []) (fun j v hj => by simp at hj) rfl hsh.rel _)
      refine wp_val (exec_append ho (by rw [hsv]; exact hrun)) (hc _ _ E' _ _ hk s1 s2 hrel)
  · -- immutable elements
    rename_i tok sz' es e1
    rw [e1] at hr1
    split at hw
    case isFalse => exact hw.elim
    rename_i hzz
    subst hzz
    split at hw
    · generalize hsv : a.eval s = y at hr1
      have : ∃ b n c, y = .slice b n c ∧ n ≤ c := by
        cases hr1 with
        | deep hd =>
          cases hd with
          | slNil => exact ⟨_, _, _, rfl, Nat.le_refl _⟩
          | slE => exact ⟨_, _, _, rfl, Nat.le_refl _⟩
          | sl _ _ _ _ _ _ hc1 => exact ⟨_, _, _, rfl, hc1⟩
        | tsl _ _ _ _ _ _ hd hbk _ =>
          cases hd with
          | slE _ _ hs => exact absurd hbk.2 hs
          | sl _ _ _ _ _ _ hc1 => exact ⟨_, _, _, rfl, hc1⟩
      obtain ⟨b, n, c, rfl, hnc⟩ := this
      refine wp_val (x := .slice b n c) (exec_append ho ?_) (hc.same hs hw hr1)
      rw [hsv]
      exact run_append_none ht hu hi hz hlen hfc0 b n c hnc
    · rename_i e0 r0
      obtain ⟨hroom, ds, hds, hw⟩ := hw
      obtain ⟨hb1, hb2⟩ := room_nat hroom hbyp
      split at hw
      case h_2 => exact hw.elim
      rename_i k
      obtain ⟨ob, hob, hw⟩ := hw
      dsimp only at hw
      split at hw
      case h_2 => exact hw.elim
      obtain ⟨hd1, hd2, hd3⟩ := deepElems_spec hds
      have hd3 := hd3 hsh.elen
      have hrd : InRowD E.I ds.flatten xs := hsh.rel.deep hd1
      have hn : (e0 :: r0).length = ds.length := hd2.symm
      generalize hsv : a.eval s = y at hr1
      cases hr1 with
      | deep hd => cases hd
      | tsl _ _ _ ad cap hk hd hbk' hh =>
      have hbk := hbk'.1
      cases hd with
      | slE _ _ hs => exact absurd hbk'.2 hs
      | sl _ _ blk off _ val hcc hl hv hr =>
      have hfe := flat_len hl
      have hfd := flat_len hd3
      by_cases hg : es.length + ds.length ≤ cap
      · -- there is room
        have hpos : 0 < ds.length := by rw [← hn]; simp
        have hh : off + es.length * i.size = (E.μ k).base ∧ off + cap * i.size = (E.μ k).fin := by
          rcases hh with h | h
          · omega
          · exact h
        obtain ⟨hh2, hh3⟩ := hh
        have hh1 : blk = (E.μ k).blk := hbk
        obtain ⟨cells, ty, fz, r1, r2, r3, r4, r5⟩ := hs.obj k _ hob
        have hmul : (es.length + ds.length) * i.size ≤ cap * i.size := Nat.mul_le_mul_right _ hg
        rw [Nat.add_mul] at hmul
        have hxl : xs.length = ds.length * i.size := by rw [hsh.xlen, hn]
        have hend : (E.μ k).base + xs.length ≤ (E.μ k).fin := by omega
        have hth : w.there blk (off + es.length * i.size) xs.length := by
          rw [hh1, hh2]
          exact Row.there r1 r2 (by omega)
        have hrun := run_append_in (ty := o.type) ht hu hi hz hlen hfc blk off es.length cap (by rw [hn]; exact hg) hth hsh.one
        rw [hh1, hh2] at hrun
        obtain ⟨q1, q2, q3, q4⟩ := setCells_rest (E.μ k).blk xs (E.μ k).base w
        have hw' : (w.setCells (E.μ k).blk (E.μ k).base xs).heap[(E.μ k).blk]? = some (.cells (stArr cells (E.μ k).base xs) ty fz) := setCells_heap _ xs _ w r1
        have hcell : ∀ j, cellIn (w.setCells (E.μ k).blk (E.μ k).base xs) (E.μ k).blk j = if (E.μ k).base ≤ j ∧ j < (E.μ k).base + xs.length then xs[j - (E.μ k).base]? else cells[j]? := by
          intro j
          simp only [cellIn, hw']
          exact stArr_get _ _ _ _ (by omega)
        have hlive : st.live k := ⟨_, hob⟩
        obtain ⟨s1, s2⟩ := hs.move (w' := w.setCells (E.μ k).blk (E.μ k).base xs) hob k.isG ⟨(E.μ k).blk, (E.μ k).base + xs.length, (E.μ k).fin⟩
          (fun j => if (E.μ k).base ≤ j ∧ j < (E.μ k).base + xs.length then xs[j - (E.μ k).base]? else none) .spare rfl (by simp) (by simp) q1 (fun b hne => setCells_other _ hne _ _ _) q2 q3 q4
          (fun j x hx => by
            have h1 := hs.imm _ _ _ hx
            rw [hcell]
            split
            · rename_i hin
              have := hs.own k hlive j hin.1 (by omega)
              rw [this] at hx; cases hx
            · simpa [cellIn, r1] using h1)
          (fun j x hx => by
            split at hx
            · rename_i hin
              refine ⟨by rw [hcell, if_pos hin]; exact hx, ?_⟩
              simp only; omega
            · cases hx)
          ⟨_, ty, fz, hw', by rw [stArr_size]; exact r2, by simpa using hend, by rw [stArr_size]; exact r4, fun j v hj => by simp at hj⟩
        refine wp_val (exec_append ho (by rw [hsv]; rw [hh1]; exact hrun)) (hc _ _ _ _ _ hw s1 s2 ?_)
        have hnk := hs.newKey k.isG
        rw [St.newKey_remove, hnk]
        have hIn : ∀ j, (E.μ k).base ≤ j → j < (E.μ k).base + xs.length → E.I (E.μ k).blk j = none := fun j a b => hs.own k hlive j a (by omega)
        have hlen2 : es.length + (e0 :: r0).length = (es ++ ds).length := by rw [List.length_append, hn]
        rw [hlen2]
        have hrd' := hrd.mono s2.le.imm
        refine .tsl _ _ _ _ _ (Env.push_has_new _ _ _ _) (.sl _ _ _ _ _ (fun j => if j < es.length * i.size then val j else xs.getD (j - es.length * i.size) default) (by rw [List.length_append]; exact hg) (fun e he => by
            rcases List.mem_append.1 he with h | h
            · exact hl e h
            · exact hd3 e h) (fun j d hj => ?_) (fun j d hj => ?_)) (by rw [Env.push_new]; exact ⟨rfl, rfl⟩) (.inr ?_)
        · rw [List.flatten_append] at hj
          by_cases hjl : j < es.length * i.size
          · rw [List.getElem?_append_left (by omega)] at hj
            rw [if_pos hjl]
            have := hv j d hj
            rw [hh1] at this
            exact s2.le.imm _ _ _ this
          · rw [List.getElem?_append_right (by omega), hfe] at hj
            rw [if_neg hjl]
            have hjx : j - es.length * i.size < xs.length := by
              have := (List.getElem?_eq_some_iff.1 hj).1
              omega
            simp only [Env.push]
            rw [hIn (off + j) (by omega) (by omega)]
            simp only [if_true]
            rw [if_pos (by omega), show off + j - (E.μ k).base = j - es.length * i.size by omega]
            simp [hjx]
        · rw [List.flatten_append] at hj
          by_cases hjl : j < es.length * i.size
          · rw [List.getElem?_append_left (by omega)] at hj
            rw [if_pos hjl]
            exact (hr j d hj).mono s2.le.imm
          · rw [List.getElem?_append_right (by omega), hfe] at hj
            rw [if_neg hjl]
            obtain ⟨x0, hx0, hrx⟩ := hrd' _ d hj
            simp only [List.getD_eq_getElem?_getD, hx0]
            exact hrx
        · rw [Env.push_new]
          refine ⟨?_, ?_⟩
          · simp only [List.length_append, Nat.add_mul]; omega
          · exact hh3
      · -- a new block
        have hold : (Builtin.firstCells i.size es.length (.slice (some ⟨blk, off, none⟩) es.length cap)).run P w.drew = .ok ((List.range (es.length * i.size)).map val).toArray w.drew := by
          refine run_firstCells_some (P := P) w.drew i.size es.length ⟨blk, off, none⟩ es.length cap _ (by simp) fun j v hj => ?_
          rw [Addr.add_mid]
          rw [List.getElem?_map] at hj
          have hlt : j < es.length * i.size := by
            rcases Nat.lt_or_ge j (es.length * i.size) with h | h
            · exact h
            · rw [List.getElem?_eq_none (by simp; omega)] at hj; cases hj
          rw [List.getElem?_range hlt] at hj
          simp only [Option.map_some, Option.some.injEq] at hj
          subst hj
          have hex : ∃ dd, es.flatten[j]? = some dd := ⟨es.flatten[j], by simp⟩
          obtain ⟨dd, hdd⟩ := hex
          have := hs.imm _ _ _ (hv j dd hdd)
          rw [cell?_eq]
          exact this
        have hrun := run_append_new (ty := o.type) ht hu hi hz0 hz hlen hfcd (some ⟨blk, off, none⟩) es.length cap hold (by omega) hb1 hb2
        have hge := grownCap_ge w (es.length + (e0 :: r0).length) cap el
        have hsize := size_three (ys := (List.range (es.length * i.size)).map val) (xs := xs) (z := z.cells) (p := es.length) (q := (e0 :: r0).length) (by simp) hsh.xlen hzs rfl hge
        have hold2 : InRowD E.I es.flatten ((List.range (es.length * i.size)).map val) := by
          intro j d hj
          have hlt : j < es.length * i.size := by rw [← hfe]; exact (List.getElem?_eq_some_iff.1 hj).1
          exact ⟨val j, by simp [hlt], hr j d hj⟩
        obtain ⟨E', s1, s2, hrel⟩ := fresh_im (w' := w.drew.alloc _) hs (some k) k.isG (fz := (0, 0)) (.inl rfl) (alloc_heap w _) (alloc_out w _) (ds := es ++ ds) (fun e he => by
            rcases List.mem_append.1 he with h | h
            · exact hl e h
            · exact hd3 e h) hsize (by rw [List.length_append, ← hn]; exact hge)
          (by rw [cells_three, List.flatten_append]; exact inRowD_append hold2 (by simp [hfe]) hrd _)
        refine wp_val (exec_append ho (by rw [hsv]; exact hrun)) (hc _ _ E' _ _ hw s1 s2 ?_)
        rw [List.length_append, ← hn] at hrel
        rw [St.newKey_remove]
        exact hrel
  · -- elements that may be written
    rename_i k sz' off len e1
    rw [e1] at hr1
    split at hw
    case isFalse => exact hw.elim
    rename_i hzz
    subst hzz
    generalize hsv : a.eval s = y at hr1
    cases hr1 with
    | deep hd => cases hd
    | ms _ _ _ _ ad cap hk hcc hh hbk ha =>
    split at hw
    · refine wp_val (x := .slice (some ad) len cap) (exec_append ho ?_) (hc.same hs hw (.ms _ _ _ _ _ _ hk hcc hh hbk ha))
      rw [hsv]
      exact run_append_none ht hu hi hz hlen hfc0 (some ad) len cap hcc
    · rename_i e0 r0
      obtain ⟨hroom, ds, hds, ob, hob, hw⟩ := hw
      obtain ⟨hb1, hb2⟩ := room_nat hroom hbyp
      dsimp only at hw
      split at hw
      case h_2 => exact hw.elim
      rename_i sz'' es
      split at hw
      case isFalse => exact hw.elim
      rename_i hzz
      subst hzz
      obtain ⟨hin, hw⟩ := hw
      have hin : off + len ≤ es.length := by simpa using hin
      obtain ⟨hd1, hd2, hd3⟩ := ownElems_spec hds
      have hd3 := hd3 hsh.elen
      have hn : (e0 :: r0).length = ds.length := hd2.symm
      have hrd : InRow (E.ofG k.isG) ds.flatten xs := hsh.rel.own hd1 (by rw [hsh.xlen, hfl])
      obtain ⟨hl, cells, ty, fz, r1, r2, r3, r4, r5⟩ := hs.obj k _ hob
      have hfe := flat_len hl
      have hfd := flat_len hd3
      have hxl : xs.length = ds.length * i.size := by rw [hsh.xlen, hn]
      have hrds := hrd.relL (by rw [hxl, hfd])
      have hpos : 0 < ds.length := by rw [← hn]; simp
      have hcl : es.length ≤ off + cap := by
        have : es.length * i.size ≤ (off + cap) * i.size := by omega
        exact Nat.le_of_mul_le_mul_right this hszp
      have hlive : st.live k := ⟨_, hob⟩
      have hll : len + (e0 :: r0).length = len + ds.length := by rw [hn]
      rw [Nat.add_mul] at hh
      by_cases hfit : off + len + ds.length ≤ es.length
      · -- in what is known
        have hk1 := hw.1 (by simpa using hfit)
        have hroom2 : len + ds.length ≤ cap := by omega
        have ha : ad = ⟨(E.μ k).blk, (E.μ k).base + off * i.size, none⟩ := by
          rcases ha with h | h
          · omega
          · exact h
        subst ha
        have hm1 : (off + len + ds.length) * i.size ≤ es.length * i.size := Nat.mul_le_mul_right _ hfit
        rw [Nat.add_mul, Nat.add_mul] at hm1
        have hth : w.there (E.μ k).blk ((E.μ k).base + off * i.size + len * i.size) xs.length := Row.there r1 r2 (by omega)
        have hrun := run_append_in (ty := o.type) ht hu hi hz hlen hfc _ _ len cap (by rw [hn]; exact hroom2) hth hsh.one
        rw [hll, Nat.add_assoc, ← Nat.add_mul] at hrun
        have hset := set_els hl hd3 (p := off + len) hfit
        have hrow := RowOf.written r1 r2 r3 r4 r5 (off := (off + len) * i.size) (vs := ds.flatten) (xs := xs) (by rw [Env.at_isG]; exact hrds) hsh.one (by rw [Nat.add_mul]; omega)
        rw [← hset] at hrow
        have hl2 : ∀ e ∈ es.take (off + len) ++ ds ++ es.drop (off + len + ds.length), e.length = i.size := by
          intro e he
          rcases List.mem_append.1 he with h | h
          · rcases List.mem_append.1 h with h | h
            · exact hl e (List.mem_of_mem_take h)
            · exact hd3 e h
          · exact hl e (List.mem_of_mem_drop h)
        obtain ⟨s1, s2⟩ := hs.write hob r1 r4 (pos := (E.μ k).base + (off + len) * i.size) (xs := xs) (by omega) (by rw [Nat.add_mul]; omega) (.arr i.size (es.take (off + len) ++ ds ++ es.drop (off + len + ds.length))) ⟨hl2, hrow⟩
        exact wp_val (exec_append ho (by rw [hsv]; exact hrun)) (hc _ _ E _ _ hk1 s1 s2 (.ms _ _ _ _ _ _ hk (by omega) (by rw [Nat.add_mul]; exact hh) rfl (.inr rfl)))
      · have hk2 := hw.2 (by simpa using hfit)
        rw [St.newKey_remove] at hk2
        have hflat : ((es.take (off + len)).drop off ++ ds).flatten = (es.flatten.drop (off * i.size)).take (len * i.size) ++ ds.flatten := by
          have hlt : ∀ e ∈ es.take (off + len), e.length = i.size := fun e he => hl e (List.mem_of_mem_take he)
          rw [List.flatten_append, flat_drop hlt, flat_take hl, List.drop_take, Nat.add_mul]
          congr 2; omega
        have hl2 : ∀ e ∈ (es.take (off + len)).drop off ++ ds, e.length = i.size := by
          intro e he
          rcases List.mem_append.1 he with h | h
          · exact hl e (List.mem_of_mem_take (List.mem_of_mem_drop h))
          · exact hd3 e h
        have hlen3 : ((es.take (off + len)).drop off ++ ds).length = len + ds.length := by
          rw [List.length_append, List.length_drop, List.length_take]; omega
        have hm0 : (off + len) * i.size ≤ es.length * i.size := Nat.mul_le_mul_right _ hin
        rw [Nat.add_mul] at hm0
        by_cases hroom2 : len + ds.length ≤ cap
        · -- in the spare room
          have ha : ad = ⟨(E.μ k).blk, (E.μ k).base + off * i.size, none⟩ := by
            rcases ha with h | h
            · omega
            · exact h
          subst ha
          have hm1 : (len + ds.length) * i.size ≤ cap * i.size := Nat.mul_le_mul_right _ hroom2
          rw [Nat.add_mul] at hm1
          have hth : w.there (E.μ k).blk ((E.μ k).base + off * i.size + len * i.size) xs.length := Row.there r1 r2 (by omega)
          have hrun := run_append_in (ty := o.type) ht hu hi hz hlen hfc _ _ len cap (by rw [hn]; exact hroom2) hth hsh.one
          rw [hll] at hrun
          obtain ⟨q1, q2, q3, q4⟩ := setCells_rest (E.μ k).blk xs ((E.μ k).base + off * i.size + len * i.size) w
          have hw' := setCells_heap _ xs ((E.μ k).base + off * i.size + len * i.size) w r1
          have hcell : ∀ j, (stArr cells ((E.μ k).base + off * i.size + len * i.size) xs)[j]? = if (E.μ k).base + off * i.size + len * i.size ≤ j ∧ j < (E.μ k).base + off * i.size + len * i.size + xs.length then xs[j - ((E.μ k).base + off * i.size + len * i.size)]? else cells[j]? := by
            intro j
            exact stArr_get _ _ _ _ (by omega)
          obtain ⟨s1, s2⟩ := hs.move (w' := w.setCells (E.μ k).blk ((E.μ k).base + off * i.size + len * i.size) xs) hob k.isG ⟨(E.μ k).blk, (E.μ k).base + off * i.size, (E.μ k).fin⟩
            (fun _ => none) (.arr i.size ((es.take (off + len)).drop off ++ ds)) rfl (by simp) (by simp) q1 (fun b hne => setCells_other _ hne _ _ _) q2 q3 q4
            (fun j x hx => by
              have h1 := hs.imm _ _ _ hx
              simp only [cellIn, hw', hcell]
              split
              · rename_i hin2
                have := hs.own k hlive j (by omega) (by omega)
                rw [this] at hx; cases hx
              · simpa [cellIn, r1] using h1)
            (fun j x hx => by cases hx)
            ⟨hl2, _, ty, fz, hw', by rw [stArr_size]; exact r2, by
                rw [flat_len hl2, hlen3, Nat.add_mul]; simp only; omega, by rw [stArr_size]; exact r4, fun j v hj => by
              rw [hflat] at hj
              rw [Env.at_newKey]
              have hle : (E.ofG k.isG).Le ((E.push k.isG ⟨(E.μ k).blk, (E.μ k).base + off * i.size, (E.μ k).fin⟩ fun b j => if b = (E.μ k).blk then (fun _ => none) j else none).ofG k.isG) := Env.ofG_push _ _ _ _ _
              have htl : ((es.flatten.drop (off * i.size)).take (len * i.size)).length = len * i.size := by
                rw [List.length_take, List.length_drop]; omega
              simp only [hcell]
              by_cases hjl : j < len * i.size
              · rw [List.getElem?_append_left (by omega), List.getElem?_take, if_pos hjl, List.getElem?_drop] at hj
                rw [if_neg (by omega)]
                obtain ⟨x0, hx0, hr0, h10⟩ := r5 _ v hj
                rw [Nat.add_assoc]
                rw [Env.at_isG] at hr0
                exact ⟨x0, hx0, hr0.mono hle, h10⟩
              · rw [List.getElem?_append_right (by omega), htl] at hj
                obtain ⟨x0, hx0, hr0, h10⟩ := hrd _ v hj
                have := (List.getElem?_eq_some_iff.1 hx0).1
                rw [if_pos (by omega)]
                refine ⟨x0, ?_, hr0.mono hle, h10⟩
                rw [← hx0]; congr 1; omega⟩
          refine wp_val (exec_append ho (by rw [hsv]; exact hrun)) (hc _ _ _ _ _ hk2 s1 s2 ?_)
          have hnk := hs.newKey k.isG
          rw [hnk]
          refine .ms _ _ _ _ _ _ (Env.push_has_new _ _ _ _) (by omega) ?_ (by rw [Env.push_new]) (.inr ?_)
          · rw [Env.push_new]; simp only [Nat.zero_add]; omega
          · rw [Env.push_new]; simp
        · -- a new block
          have hys : ∃ ys : List Value, ys.length = len * i.size ∧ InRow (E.ofG k.isG) ((es.flatten.drop (off * i.size)).take (len * i.size)) ys ∧
              (Builtin.firstCells i.size len (.slice (some ad) len cap)).run P w.drew = .ok ys.toArray w.drew := by
            rcases ha with h0 | ha
            · have hl0 : len = 0 := by omega
              subst hl0
              refine ⟨[], by simp, fun j v hj => by simp at hj, ?_⟩
              simp [Builtin.firstCells, loadCells, loadCellsFrom]
            · subst ha
              have hcat : CellsAt (E.ofG k.isG) w (E.μ k).blk ((E.μ k).base + off * i.size) ((es.flatten.drop (off * i.size)).take (len * i.size)) := by
                have h1 : RowOf (E.at k) w (E.μ k) es.flatten := ⟨cells, ty, fz, r1, r2, r3, r4, r5⟩
                have := h1.cellsAt.sub (off * i.size) (len * i.size)
                rw [Env.at_isG] at this
                exact this
              obtain ⟨ys, y1, y2, y3, y4⟩ := hcat.list
              have hyl : ys.length = len * i.size := by rw [y1, List.length_take, List.length_drop]; omega
              refine ⟨ys, hyl, fun j v hj => ?_, ?_⟩
              · obtain ⟨x0, hx0, hr0⟩ := y3.get hj
                have hx0' : ys[j]? = some x0 := by simpa using hx0
                exact ⟨x0, hx0', hr0, y4 x0 (List.mem_of_getElem? hx0')⟩
              · refine run_firstCells_some (P := P) w.drew i.size len _ len cap ys hyl fun j v hj => ?_
                rw [Addr.add_mid]
                have := y2 j v hj
                exact this
          obtain ⟨ys, hyl, hyr, hold⟩ := hys
          have hrun := run_append_new (ty := o.type) ht hu hi hz0 hz hlen hfcd (some ad) len cap hold (by omega) hb1 hb2
          have hge := grownCap_ge w (len + (e0 :: r0).length) cap el
          have hsize := size_three (ys := ys) (xs := xs) (z := z.cells) (p := len) (q := (e0 :: r0).length) hyl hsh.xlen hzs rfl hge
          obtain ⟨E', s1, s2, hrel⟩ := fresh_mu (w' := w.drew.alloc _) hs (some k) k.isG (fz := (0, 0)) (.inl rfl) (alloc_heap w _) (alloc_out w _) (ds := (es.take (off + len)).drop off ++ ds) hl2 hsize (by rw [hlen3, ← hn]; exact hge)
            (by
              rw [cells_three, hflat]
              exact inRow_append hyr (by rw [hyl, List.length_take, List.length_drop]; omega) hrd _)
          refine wp_val (exec_append ho (by rw [hsv]; exact hrun)) (hc _ _ E' _ _ hk2 s1 s2 ?_)
          rw [hlen3] at hrel
          rw [hll] at *
          exact hrel
  · exact hw.elim
end
end Go.Eng
