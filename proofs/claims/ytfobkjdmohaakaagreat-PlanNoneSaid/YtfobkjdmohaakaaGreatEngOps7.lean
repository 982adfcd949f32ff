/-
Each operation of the model does what the abstract step says (part seven: append and its kin).
-/
import Derived.Test.YtfobkjdmohaakaaGreatEngOps6
namespace Go.Eng
open Go

/-- What a slice's or string's value shows: its length, its cells, in whatever world of this memory. -/
structure Shows (P : Program) (E : Env) (w : World) (sz : Nat) (x : Value) (es : List (List V)) (xs : List Value) : Prop where
  elen : ∀ e ∈ es, e.length = sz
  xlen : xs.length = es.length * sz
  len : ∀ w0 : World, (Builtin.lenOf x).run P w0 = .ok es.length w0
  first : ∀ w0 : World, w0.heap = w.heap → ∀ n, n ≤ es.length → (Builtin.firstCells sz n x).run P w0 = .ok (xs.take (n * sz)).toArray w0
  rel : InRow E es.flatten xs
  one : ∀ y ∈ xs, y.oneCell' = true

section
variable {P : Program} {E : Env} {st : St} {w : World} {K : R → Prop}

theorem byteCells_flat : ∀ l : List UInt8, (byteCells l).flatten = l.map fun c => V.i .u8 c.toNat
  | [] => rfl
  | c :: r => by
    have := byteCells_flat r
    simp only [byteCells, List.map_cons, List.flatten_cons, List.singleton_append] at *
    rw [this]
theorem shows_cells {sz : Nat} {es : List (List V)} {b off cap : Nat} (hl : ∀ e ∈ es, e.length = sz) (hc : CellsAt E w b off es.flatten) (len : Nat) (hlen : len = es.length) :
    ∃ xs, Shows P E w sz (.slice (some ⟨b, off, none⟩) len cap) es xs := by
  subst hlen
  obtain ⟨xs, h1, h2, h3, h4⟩ := hc.list
  have hfl := flat_len hl
  refine ⟨xs, hl, by omega, fun w0 => by simp [Builtin.lenOf], fun w0 hw n hn => ?_, fun j v hj => ?_, h4⟩
  · refine run_firstCells_some (P := P) w0 sz n ⟨b, off, none⟩ es.length cap (xs.take (n * sz)) ?_ fun j v hj => ?_
    · rw [List.length_take]
      have : n * sz ≤ es.length * sz := Nat.mul_le_mul_right _ hn
      omega
    · rw [List.getElem?_take] at hj
      split at hj
      · rw [Addr.add_mid]
        have := h2 j v hj
        rw [cell?_eq] at this ⊢
        simpa [cellIn, hw] using this
      · cases hj
  · obtain ⟨x, hx, hr⟩ := h3.get hj
    have hx' : xs[j]? = some x := by simpa using hx
    exact ⟨x, hx', hr, h4 x (List.mem_of_getElem? hx')⟩

theorem shows_none {sz : Nat} {x : Value} (hl : ∀ w0 : World, (Builtin.lenOf x).run P w0 = .ok 0 w0) (hf : ∀ w0 : World, (Builtin.firstCells sz 0 x).run P w0 = .ok #[] w0) : Shows P E w sz x [] [] where
  elen e he := by cases he
  xlen := by simp
  len := hl
  first w0 _ n hn := by
    obtain rfl : n = 0 := by simpa using hn
    simpa using hf w0
  rel j v hj := by simp at hj
  one y hy := by cases hy
theorem elems_ok {sz : Nat} {v : V} {x : Value} {A : CallP} {k : List (List V) → T R} (hs : Sim E st w) (hr : Rel E v x) (hw : (elemsOf sz st v k).wp A K) :
    ∃ es xs, (k es).wp A K ∧ Shows P E w sz x es xs := by
  unfold elemsOf at hw
  split at hw
  · cases hr with
    | deep hd =>
      cases hd
      exact ⟨[], [], hw, shows_none (fun w0 => by simp [Builtin.lenOf]) (fun w0 => by simp [Builtin.firstCells])⟩
  · rename_i tok sz' es
    split at hw
    case isFalse => exact hw.elim
    rename_i hz
    subst hz
    have fin : ∀ {x : Value}, RelD E.I (.sl none sz' es) x → ∃ xs, Shows P E w sz' x es xs := by
      intro x hd
      cases hd with
      | slNil => exact ⟨[], shows_none (fun w0 => by simp [Builtin.lenOf]) (fun w0 => by simp [Builtin.firstCells])⟩
      | slE _ a hs => exact ⟨[], shows_none (fun w0 => by simp [Builtin.lenOf]) (fun w0 => by simp [Builtin.firstCells, loadCells, loadCellsFrom])⟩
      | sl _ _ blk off cap val hc hl hv hr => exact shows_cells hl (hs.immAt hv hr) _ rfl
    cases hr with
    | deep hd =>
      cases hd with
      | slNil => obtain ⟨xs, h⟩ := fin (.slNil (I := E.I) sz'); exact ⟨_, xs, hw, h⟩
      | slE _ a hs => obtain ⟨xs, h⟩ := fin (.slE (I := E.I) sz' a hs); exact ⟨_, xs, hw, h⟩
      | sl _ _ blk off cap val hc hl hv hr => obtain ⟨xs, h⟩ := fin (.sl sz' es blk off cap val hc hl hv hr); exact ⟨_, xs, hw, h⟩
    | tsl k _ _ a cap hk hd _ _ => obtain ⟨xs, h⟩ := fin hd; exact ⟨_, xs, hw, h⟩
  · rename_i key sz' s n
    split at hw
    case isFalse => exact hw.elim
    rename_i hz
    subst hz
    obtain ⟨ob, hob, hw⟩ := hw
    dsimp only at hw
    split at hw
    case h_2 => exact hw.elim
    rename_i sz'' es
    split at hw
    case isFalse => exact hw.elim
    rename_i hz
    subst hz
    obtain ⟨hin, hw⟩ := hw
    have hin : s + n ≤ es.length := by simpa using hin
    have hlen : ((es.drop s).take n).length = n := by simp; omega
    cases hr with
    | deep hd => cases hd
    | ms _ _ _ _ a cap hk hc hf hb ha =>
      have hobj := hs.obj key _ hob
      rcases ha with h0 | ha
      · have hn : n = 0 := by omega
        subst hn
        have : (es.drop s).take 0 = [] := by simp
        rw [this] at hw
        exact ⟨[], [], hw, shows_none (fun w0 => by simp [Builtin.lenOf]) (fun w0 => by simp [Builtin.firstCells, loadCells, loadCellsFrom])⟩
      · subst ha
        have hl : ∀ e ∈ (es.drop s).take n, e.length = sz'' := fun e he => hobj.1 e (List.mem_of_mem_drop (List.mem_of_mem_take he))
        have hl' : ∀ e ∈ es.drop s, e.length = sz'' := fun e he => hobj.1 e (List.mem_of_mem_drop he)
        have hcell := (hobj.2.cellsAt.mono (E.at_le key)).sub (s * sz'') (n * sz'')
        rw [← flat_drop hobj.1, ← flat_take hl'] at hcell
        obtain ⟨xs, hx⟩ := shows_cells (P := P) (cap := cap) hl hcell n hlen.symm
        exact ⟨_, xs, hw, hx⟩
  · rename_i l
    split at hw
    case isFalse => exact hw.elim
    rename_i hz
    subst hz
    have hx := hr.strv
    subst hx
    have hsz : (str l).size = l.length := by simp [str, ByteArray.size]
    refine ⟨byteCells l, l.map fun c => .int .u8 c.toNat, hw, ?_, by simp [byteCells], fun w0 => by simp [Builtin.lenOf, byteCells, hsz], ?_, ?_, ?_⟩
    · intro e he
      simp only [byteCells, List.mem_map] at he
      obtain ⟨c, _, rfl⟩ := he
      rfl
    · intro w0 _ n hn
      simp only [byteCells, List.length_map] at hn
      simp only [Builtin.firstCells, Sem.run_pure, Nat.mul_one]
      congr 1
      apply Array.ext'
      simp [str, ByteArray.data_extract, List.map_take]
    · intro j v hj
      rw [byteCells_flat, List.getElem?_map] at hj
      cases hc : l[j]? with
      | none => rw [hc] at hj; cases hj
      | some c =>
        rw [hc] at hj
        simp only [Option.map_some, Option.some.injEq] at hj
        subst hj
        exact ⟨.int .u8 c.toNat, by simp [hc], .deep (.i _ _), rfl⟩
    · intro y hy
      simp only [List.mem_map] at hy
      obtain ⟨c, _, rfl⟩ := hy
      rfl
  · exact hw.elim

/-! The built-in append, on whatever is appended. -/
def notInt (P : Program) (t : Option TypeId) : Bool :=
  match t with
  | some u => match P.underlying u with
    | some (.int _) => false
    | some _ => true
    | none => false
  | none => true

theorem notInt_or (d : TypeDesc) : (d matches .int _) = false ∨ ∃ k, d = .int k := by cases d <;> first | exact .inl rfl | exact .inr ⟨_, rfl⟩
theorem notInt_ne {u : TypeId} {d : TypeDesc} (hq : P.underlying u = some d) (hz : notInt P (some u) = true) : ∀ k, d ≠ .int k := by
  intro k hk
  subst hk
  simp [notInt, hq] at hz

theorem andThen_eq {α β : Type} {X : Result α} {F : α → World → Result β} {x : α} {w' : World} {Y : Result β} (hX : X = .ok x w') (h : F x w' = Y) : X.andThen F = Y := by rw [hX]; exact h

theorem run_append_in {ts : Array TypeId} {t ty el : TypeId} {i : TypeInfo} {x : Value} {n : Nat} {xs : List Value} (ht : ts[0]? = some t) (hu : P.underlying t = some (.slice el)) (hi : P.info? el = some i) (hz : notInt P ts[1]? = true)
    (hlen : (Builtin.lenOf x).run P w = .ok n w) (hfc : (Builtin.firstCells i.size n x).run P w = .ok xs.toArray w) (b off sLen sCap : Nat) (hroom : sLen + n ≤ sCap) (hth : w.there b (off + sLen * i.size) xs.length) (h1 : ∀ y ∈ xs, y.oneCell' = true) :
    (Builtin.append_ ts ty #[.slice (some ⟨b, off, none⟩) sLen sCap, x]).run P w = .ok (.slice (some ⟨b, off, none⟩) (sLen + n) sCap) (w.setCells b (off + sLen * i.size) xs) := by
  have hst := run_storeCells_cells (P := P) b (off + sLen * i.size) xs 0 w (fun j hj => by simpa using (hth j hj).1) (fun j hj => by simpa using (hth j hj).2) h1
  simp only [Nat.add_zero] at hst
  unfold Builtin.append_
  simp only [ht, List.getElem?_toArray, List.getElem?_cons_zero, List.getElem?_cons_succ, Sem.run_bind, run_underlying hu, Result.andThen_ok]
  refine andThen_eq (x := i.size) (w' := w) (by simp [sizeOf, typeInfo, hi]) ?_
  cases h : ts[1]? with
  | none =>
    simp [hlen, hroom, hfc, Addr.add_mid, hst]
  | some u =>
    rw [h] at hz
    cases hq : P.underlying u with
    | none => simp [notInt, hq] at hz
    | some d =>
      have hne := notInt_ne hq hz
      simp only [Sem.run_bind, run_underlying hq, Result.andThen_ok]
      refine andThen_eq (x := false) (w' := w) (by cases d <;> first | exact absurd rfl (hne _) | simp) ?_
      simp [hlen, hroom, hfc, Addr.add_mid, hst]
theorem run_append_none {ts : Array TypeId} {t ty el : TypeId} {i : TypeInfo} {x : Value} (ht : ts[0]? = some t) (hu : P.underlying t = some (.slice el)) (hi : P.info? el = some i) (hz : notInt P ts[1]? = true)
    (hlen : (Builtin.lenOf x).run P w = .ok 0 w) (hfc : (Builtin.firstCells i.size 0 x).run P w = .ok #[] w) (b : Option Addr) (sLen sCap : Nat) (hroom : sLen ≤ sCap) :
    (Builtin.append_ ts ty #[.slice b sLen sCap, x]).run P w = .ok (.slice b sLen sCap) w := by
  unfold Builtin.append_
  simp only [ht, List.getElem?_toArray, List.getElem?_cons_zero, List.getElem?_cons_succ, Sem.run_bind, run_underlying hu, Result.andThen_ok]
  refine andThen_eq (x := i.size) (w' := w) (by simp [sizeOf, typeInfo, hi]) ?_
  cases h : ts[1]? with
  | none =>
    cases b <;> simp [hlen, hroom, hfc, storeCells]
  | some u =>
    rw [h] at hz
    cases hq : P.underlying u with
    | none => simp [notInt, hq] at hz
    | some d =>
      have hne := notInt_ne hq hz
      simp only [Sem.run_bind, run_underlying hq, Result.andThen_ok]
      refine andThen_eq (x := false) (w' := w) (by cases d <;> first | exact absurd rfl (hne _) | simp) ?_
      cases b <;> simp [hlen, hroom, hfc, storeCells]
theorem run_append_new {ts : Array TypeId} {t ty el : TypeId} {i : TypeInfo} {z : Value} {x : Value} {n : Nat} {xs ys : List Value} (ht : ts[0]? = some t) (hu : P.underlying t = some (.slice el)) (hi : P.info? el = some i) (hz0 : i.zero = some z) (hz : notInt P ts[1]? = true)
    (hlen : (Builtin.lenOf x).run P w = .ok n w) (hfc : (Builtin.firstCells i.size n x).run P w.drew = .ok xs.toArray w.drew) (b : Option Addr) (sLen sCap : Nat)
    (hold : (Builtin.firstCells i.size sLen (.slice b sLen sCap)).run P w.drew = .ok ys.toArray w.drew) (hg : sCap < sLen + n) (hb : (sLen + n) * i.bytes ≤ 140737488355328) (h63 : sLen + n ≤ 9223372036854775807) :
    (Builtin.append_ ts ty #[.slice b sLen sCap, x]).run P w = .ok (.slice (some ⟨w.heap.size, 0, none⟩) (sLen + n) (grownCap w (sLen + n) sCap el))
      (w.drew.alloc (.cells (ys.toArray ++ xs.toArray ++ Builtin.zeroCells z.cells (grownCap w (sLen + n) sCap el - (sLen + n))) el)) := by
  have hn : ¬ (sLen + n ≤ sCap) := by omega
  have h63' : ¬ (9223372036854775807 < ((sLen : Int) + (n : Int))) := by omega
  have hfit := growslice_fits (need := sLen + n) (old := sCap) (bytes := i.bytes) hg hb
  have h48' : ¬ (281474976710656 < Builtin.nextslicecap (sLen + n) sCap * i.bytes) := by omega
  unfold Builtin.append_
  simp only [ht, List.getElem?_toArray, List.getElem?_cons_zero, List.getElem?_cons_succ, Sem.run_bind, run_underlying hu, Result.andThen_ok]
  refine andThen_eq (x := i.size) (w' := w) (by simp [sizeOf, typeInfo, hi]) ?_
  cases h : ts[1]? with
  | none =>
    simp [typeInfo, zeroValue, hi, hz0, hlen, hn, h63', h48', Question.forced, hfc, hold, newRow, grownCap]
    congr 2
    apply Array.ext'
    simp [List.append_assoc]
  | some u =>
    rw [h] at hz
    cases hq : P.underlying u with
    | none => simp [notInt, hq] at hz
    | some d =>
      have hne := notInt_ne hq hz
      simp only [Sem.run_bind, run_underlying hq, Result.andThen_ok]
      refine andThen_eq (x := false) (w' := w) (by cases d <;> first | exact absurd rfl (hne _) | simp) ?_
      simp [typeInfo, zeroValue, hi, hz0, hlen, hn, h63', h48', Question.forced, hfc, hold, newRow, grownCap]
      congr 2
      apply Array.ext'
      simp [List.append_assoc]
end
end Go.Eng
