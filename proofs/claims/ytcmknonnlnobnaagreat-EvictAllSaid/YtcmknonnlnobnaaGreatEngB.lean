/-
Each operation of the model does what the abstract step says (part seven: append and its kin).
-/
import Derived.Test.YtcmknonnlnobnaaGreatEngA
import Derived.Laws.BytesString
import Derived.Laws.Slices
import Derived.Laws.StructEq
import Derived.ChangeKeysEq
namespace Go.Eng
open Go
structure Shows (P : Program) (E : Env) (w : World) (sz : Nat) (x : Value) (es : List (List V)) (xs : List Value) : Prop where
 elen : ∀ e ∈ es, e.length = sz
 xlen : xs.length = es.length * sz
 len : ∀ w0 : World, (Builtin.lenOf x).run P w0 = .ok es.length w0
 first : ∀ w0 : World, w0.heap = w.heap → ∀ n, n ≤ es.length → (Builtin.firstCells sz n x).run P w0 = .ok (xs.take (n * sz)).toArray w0
 rel : InRow E es.flatten xs
 one : ∀ y ∈ xs, y.oneCell' = true
section
variable {P : Program} {E : Env} {st : St} {w : World} {K : R → Prop}
theorem byteCells_flat : ∀ l : List UInt8, (byteCells l).flatten = l.map fun c => V.i .u8 c.toNat
 | [] => rfl
 | c :: r => by
   have := byteCells_flat r
   simp only [byteCells, List.map_cons, List.flatten_cons, List.singleton_append] at *
   rw [this]
theorem shows_cells {sz : Nat} {es : List (List V)} {b off cap : Nat} (hl : ∀ e ∈ es, e.length = sz) (hc : CellsAt E w b off es.flatten) (len : Nat) (hlen : len = es.length) :
 ∃ xs, Shows P E w sz (.slice (some ⟨b, off, none⟩) len cap) es xs := by
 subst hlen
 obtain ⟨xs, h1, h2, h3, h4⟩ := hc.list
 have hfl := flat_len hl
 refine ⟨xs, hl, by omega, fun w0 => by simp [Builtin.lenOf], fun w0 hw n hn => ?_, fun j v hj => ?_, h4⟩
 · refine run_firstCells_some (P := P) w0 sz n ⟨b, off, none⟩ es.length cap (xs.take (n * sz)) ?_ fun j v hj => ?_
   · rw [List.length_take]
     have : n * sz ≤ es.length * sz := Nat.mul_le_mul_right _ hn
     omega
   · rw [List.getElem?_take] at hj
     split at hj
     · rw [Addr.add_mid]
       have := h2 j v hj
       rw [cell?_eq] at this ⊢
       simpa [cellIn, hw] using this
     · cases hj
 · obtain ⟨x, hx, hr⟩ := h3.get hj
   have hx' : xs[j]? = some x := by simpa using hx
   exact ⟨x, hx', hr, h4 x (List.mem_of_getElem? hx')⟩
theorem shows_none {sz : Nat} {x : Value} (hl : ∀ w0 : World, (Builtin.lenOf x).run P w0 = .ok 0 w0) (hf : ∀ w0 : World, (Builtin.firstCells sz 0 x).run P w0 = .ok #[] w0) : Shows P E w sz x [] [] where
 elen e he := by cases he
 xlen := by simp
 len := hl
 first w0 _ n hn := by
  obtain rfl : n = 0 := by simpa using hn
  simpa using hf w0
 rel j v hj := by simp at hj
 one y hy := by cases hy
theorem elems_ok {sz : Nat} {v : V} {x : Value} {A : CallP} {k : List (List V) → T R} (hs : Sim E st w) (hr : Rel E v x) (hw : (elemsOf sz st v k).wp A K) :
 ∃ es xs, (k es).wp A K ∧ Shows P E w sz x es xs := by
 unfold elemsOf at hw
 split at hw
 · cases hr with
   | deep hd =>
     cases hd
     exact ⟨[], [], hw, shows_none (fun w0 => by simp [Builtin.lenOf]) (fun w0 => by simp [Builtin.firstCells])⟩
 · rename_i tok sz' es
   split at hw
   case isFalse => exact hw.elim
   rename_i hz
   subst hz
   have fin : ∀ {x : Value}, RelD E.I (.sl none sz' es) x → ∃ xs, Shows P E w sz' x es xs := by
    intro x hd
    cases hd with
    | slNil => exact ⟨[], shows_none (fun w0 => by simp [Builtin.lenOf]) (fun w0 => by simp [Builtin.firstCells])⟩
    | slE _ a hs => exact ⟨[], shows_none (fun w0 => by simp [Builtin.lenOf]) (fun w0 => by simp [Builtin.firstCells, loadCells, loadCellsFrom])⟩
    | sl _ _ blk off cap val hc hl hv hr => exact shows_cells hl (hs.immAt hv hr) _ rfl
   cases hr with
   | deep hd =>
     cases hd with
     | slNil => obtain ⟨xs, h⟩ := fin (.slNil (I := E.I) sz'); exact ⟨_, xs, hw, h⟩
     | slE _ a hs => obtain ⟨xs, h⟩ := fin (.slE (I := E.I) sz' a hs); exact ⟨_, xs, hw, h⟩
     | sl _ _ blk off cap val hc hl hv hr => obtain ⟨xs, h⟩ := fin (.sl sz' es blk off cap val hc hl hv hr); exact ⟨_, xs, hw, h⟩
   | tsl k _ _ a cap hk hd _ _ => obtain ⟨xs, h⟩ := fin hd; exact ⟨_, xs, hw, h⟩
 · rename_i key sz' s n
   split at hw
   case isFalse => exact hw.elim
   rename_i hz
   subst hz
   obtain ⟨ob, hob, hw⟩ := hw
   dsimp only at hw
   split at hw
   case h_2 => exact hw.elim
   rename_i sz'' es
   split at hw
   case isFalse => exact hw.elim
   rename_i hz
   subst hz
   obtain ⟨hin, hw⟩ := hw
   have hin : s + n ≤ es.length := by simpa using hin
   have hlen : ((es.drop s).take n).length = n := by simp; omega
   cases hr with
   | deep hd => cases hd
   | ms _ _ _ _ a cap hk hc hf hb ha =>
     have hobj := hs.obj key _ hob
     rcases ha with h0 | ha
     · have hn : n = 0 := by omega
       subst hn
       have : (es.drop s).take 0 = [] := by simp
       rw [this] at hw
       exact ⟨[], [], hw, shows_none (fun w0 => by simp [Builtin.lenOf]) (fun w0 => by simp [Builtin.firstCells, loadCells, loadCellsFrom])⟩
     · subst ha
       have hl : ∀ e ∈ (es.drop s).take n, e.length = sz'' := fun e he => hobj.1 e (List.mem_of_mem_drop (List.mem_of_mem_take he))
       have hl' : ∀ e ∈ es.drop s, e.length = sz'' := fun e he => hobj.1 e (List.mem_of_mem_drop he)
       have hcell := (hobj.2.cellsAt.mono (E.at_le key)).sub (s * sz'') (n * sz'')
       rw [← flat_drop hobj.1, ← flat_take hl'] at hcell
       obtain ⟨xs, hx⟩ := shows_cells (P := P) (cap := cap) hl hcell n hlen.symm
       exact ⟨_, xs, hw, hx⟩
 · rename_i l
   split at hw
   case isFalse => exact hw.elim
   rename_i hz
   subst hz
   have hx := hr.strv
   subst hx
   have hsz : (str l).size = l.length := by simp [str, ByteArray.size]
   refine ⟨byteCells l, l.map fun c => .int .u8 c.toNat, hw, ?_, by simp [byteCells], fun w0 => by simp [Builtin.lenOf, byteCells, hsz], ?_, ?_, ?_⟩
   · intro e he
     simp only [byteCells, List.mem_map] at he
     obtain ⟨c, _, rfl⟩ := he
     rfl
   · intro w0 _ n hn
     simp only [byteCells, List.length_map] at hn
     simp only [Builtin.firstCells, Sem.run_pure, Nat.mul_one]
     congr 1
     apply Array.ext'
     simp [str, ByteArray.data_extract, List.map_take]
   · intro j v hj
     rw [byteCells_flat, List.getElem?_map] at hj
     cases hc : l[j]? with
     | none => rw [hc] at hj; cases hj
     | some c =>
       rw [hc] at hj
       simp only [Option.map_some, Option.some.injEq] at hj
       subst hj
       exact ⟨.int .u8 c.toNat, by simp [hc], .deep (.i _ _), rfl⟩
   · intro y hy
     simp only [List.mem_map] at hy
     obtain ⟨c, _, rfl⟩ := hy
     rfl
 · exact hw.elim
/-! The built-in append, on whatever is appended. -/
def notInt (P : Program) (t : Option TypeId) : Bool :=
 match t with
 | some u => match P.underlying u with
   | some (.int _) => false
   | some _ => true
   | none => false
 | none => true
theorem notInt_ne {u : TypeId} {d : TypeDesc} (hq : P.underlying u = some d) (hz : notInt P (some u) = true) : ∀ k, d ≠ .int k := by
 intro k hk
 subst hk
 simp [notInt, hq] at hz
theorem andThen_eq {α β : Type} {X : Result α} {F : α → World → Result β} {x : α} {w' : World} {Y : Result β} (hX : X = .ok x w') (h : F x w' = Y) : X.andThen F = Y := by rw [hX]; exact h
theorem run_append_in {ts : Array TypeId} {t ty el : TypeId} {i : TypeInfo} {x : Value} {n : Nat} {xs : List Value} (ht : ts[0]? = some t) (hu : P.underlying t = some (.slice el)) (hi : P.info? el = some i) (hz : notInt P ts[1]? = true)
 (hlen : (Builtin.lenOf x).run P w = .ok n w) (hfc : (Builtin.firstCells i.size n x).run P w = .ok xs.toArray w) (b off sLen sCap : Nat) (hroom : sLen + n ≤ sCap) (hth : w.there b (off + sLen * i.size) xs.length) (h1 : ∀ y ∈ xs, y.oneCell' = true) :
 (Builtin.append_ ts ty #[.slice (some ⟨b, off, none⟩) sLen sCap, x]).run P w = .ok (.slice (some ⟨b, off, none⟩) (sLen + n) sCap) (w.setCells b (off + sLen * i.size) xs) := by
 have hst := run_storeCells_cells (P := P) b (off + sLen * i.size) xs 0 w (fun j hj => by simpa using (hth j hj).1) (fun j hj => by simpa using (hth j hj).2) h1
 simp only [Nat.add_zero] at hst
 unfold Builtin.append_
 simp only [ht, List.getElem?_toArray, List.getElem?_cons_zero, List.getElem?_cons_succ, Sem.run_bind, run_underlying hu, Result.andThen_ok]
 refine andThen_eq (x := i.size) (w' := w) (by simp [sizeOf, typeInfo, hi]) ?_
 cases h : ts[1]? with
 | none =>
   simp [hlen, hroom, hfc, Addr.add_mid, hst]
 | some u =>
   rw [h] at hz
   cases hq : P.underlying u with
   | none => simp [notInt, hq] at hz
   | some d =>
     have hne := notInt_ne hq hz
     simp only [Sem.run_bind, run_underlying hq, Result.andThen_ok]
     refine andThen_eq (x := false) (w' := w) (by cases d <;> first | exact absurd rfl (hne _) | simp) ?_
     simp [hlen, hroom, hfc, Addr.add_mid, hst]
theorem run_append_none {ts : Array TypeId} {t ty el : TypeId} {i : TypeInfo} {x : Value} (ht : ts[0]? = some t) (hu : P.underlying t = some (.slice el)) (hi : P.info? el = some i) (hz : notInt P ts[1]? = true)
 (hlen : (Builtin.lenOf x).run P w = .ok 0 w) (hfc : (Builtin.firstCells i.size 0 x).run P w = .ok #[] w) (b : Option Addr) (sLen sCap : Nat) (hroom : sLen ≤ sCap) :
 (Builtin.append_ ts ty #[.slice b sLen sCap, x]).run P w = .ok (.slice b sLen sCap) w := by
 unfold Builtin.append_
 simp only [ht, List.getElem?_toArray, List.getElem?_cons_zero, List.getElem?_cons_succ, Sem.run_bind, run_underlying hu, Result.andThen_ok]
 refine andThen_eq (x := i.size) (w' := w) (by simp [sizeOf, typeInfo, hi]) ?_
 cases h : ts[1]? with
 | none =>
   cases b <;> simp [hlen, hroom, hfc, storeCells]
 | some u =>
   rw [h] at hz
   cases hq : P.underlying u with
   | none => simp [notInt, hq] at hz
   | some d =>
     have hne := notInt_ne hq hz
     simp only [Sem.run_bind, run_underlying hq, Result.andThen_ok]
     refine andThen_eq (x := false) (w' := w) (by cases d <;> first | exact absurd rfl (hne _) | simp) ?_
     cases b <;> simp [hlen, hroom, hfc, storeCells]
theorem run_append_new {ts : Array TypeId} {t ty el : TypeId} {i : TypeInfo} {z : Value} {x : Value} {n : Nat} {xs ys : List Value} (ht : ts[0]? = some t) (hu : P.underlying t = some (.slice el)) (hi : P.info? el = some i) (hz0 : i.zero = some z) (hz : notInt P ts[1]? = true)
 (hlen : (Builtin.lenOf x).run P w = .ok n w) (hfc : (Builtin.firstCells i.size n x).run P w.drew = .ok xs.toArray w.drew) (b : Option Addr) (sLen sCap : Nat)
 (hold : (Builtin.firstCells i.size sLen (.slice b sLen sCap)).run P w.drew = .ok ys.toArray w.drew) (hg : sCap < sLen + n) (hb : (sLen + n) * i.bytes ≤ 140737488355328) (h63 : sLen + n ≤ 9223372036854775807) :
 (Builtin.append_ ts ty #[.slice b sLen sCap, x]).run P w = .ok (.slice (some ⟨w.heap.size, 0, none⟩) (sLen + n) (grownCap w (sLen + n) sCap el))
   (w.drew.alloc (.cells (ys.toArray ++ xs.toArray ++ Builtin.zeroCells z.cells (grownCap w (sLen + n) sCap el - (sLen + n))) el)) := by
 have hn : ¬ (sLen + n ≤ sCap) := by omega
 have h63' : ¬ (9223372036854775807 < ((sLen : Int) + (n : Int))) := by omega
 have hfit := growslice_fits (need := sLen + n) (old := sCap) (bytes := i.bytes) hg hb
 have h48' : ¬ (281474976710656 < Builtin.nextslicecap (sLen + n) sCap * i.bytes) := by omega
 unfold Builtin.append_
 simp only [ht, List.getElem?_toArray, List.getElem?_cons_zero, List.getElem?_cons_succ, Sem.run_bind, run_underlying hu, Result.andThen_ok]
 refine andThen_eq (x := i.size) (w' := w) (by simp [sizeOf, typeInfo, hi]) ?_
 cases h : ts[1]? with
 | none =>
   simp [typeInfo, zeroValue, hi, hz0, hlen, hn, h63', h48', Question.forced, hfc, hold, newRow, grownCap]
   congr 2
   apply Array.ext'
   simp [List.append_assoc]
 | some u =>
   rw [h] at hz
   cases hq : P.underlying u with
   | none => simp [notInt, hq] at hz
   | some d =>
     have hne := notInt_ne hq hz
     simp only [Sem.run_bind, run_underlying hq, Result.andThen_ok]
     refine andThen_eq (x := false) (w' := w) (by cases d <;> first | exact absurd rfl (hne _) | simp) ?_
     simp [typeInfo, zeroValue, hi, hz0, hlen, hn, h63', h48', Question.forced, hfc, hold, newRow, grownCap]
     congr 2
     apply Array.ext'
     simp [List.append_assoc]
end
end Go.Eng
/-
Each operation of the model does what the abstract step says (part eight: append).
-/
namespace Go.Eng
open Go
def elOk (P : Program) (el : TypeId) (sz bytes : Nat) : Bool :=
 match P.info? el with
 | some i => decide (i.size = sz) && decide (i.bytes = bytes) && decide (0 < sz) && decide (0 < bytes) && (match i.zero with
   | some z => decide (z.cells.size = sz)
   | none => false)
 | none => false
theorem elOk_spec {P : Program} {el : TypeId} {sz bytes : Nat} (h : elOk P el sz bytes = true) :
 ∃ i z, P.info? el = some i ∧ i.zero = some z ∧ i.size = sz ∧ i.bytes = bytes ∧ 0 < sz ∧ 0 < bytes ∧ z.cells.size = sz := by
 unfold elOk at h
 split at h
 · rename_i i hi
   simp only [Bool.and_eq_true, decide_eq_true_eq] at h
   obtain ⟨⟨⟨⟨h1, h2⟩, h3⟩, h4⟩, h5⟩ := h
   split at h5
   · rename_i z hz
     exact ⟨i, z, hi, hz, h1, h2, h3, h4, by simpa using h5⟩
   · cases h5
 · cases h
theorem inRow_append {E : Env} {as bs : List V} {ys xs : List Value} (ha : InRow E as ys) (hl : ys.length = as.length) (hb : InRow E bs xs) (rest : List Value) : InRow E (as ++ bs) (ys ++ xs ++ rest) := by
 intro j v hj
 rw [List.getElem?_append] at hj
 split at hj
 · rename_i hlt
   obtain ⟨x, hx, h⟩ := ha j v hj
   refine ⟨x, ?_, h⟩
   rw [List.append_assoc, List.getElem?_append_left (by omega)]
   exact hx
 · rename_i hlt
   obtain ⟨x, hx, h⟩ := hb _ v hj
   have hlt' := (List.getElem?_eq_some_iff.1 hx).1
   refine ⟨x, ?_, h⟩
   rw [List.getElem?_append_left (by rw [List.length_append]; omega), List.getElem?_append_right (by omega), hl]
   exact hx
theorem inRowD_append {I : Imm} {as bs : List V} {ys xs : List Value} (ha : InRowD I as ys) (hl : ys.length = as.length) (hb : InRowD I bs xs) (rest : List Value) : InRowD I (as ++ bs) (ys ++ xs ++ rest) := by
 intro j v hj
 rw [List.getElem?_append] at hj
 split at hj
 · rename_i hlt
   obtain ⟨x, hx, h⟩ := ha j v hj
   refine ⟨x, ?_, h⟩
   rw [List.append_assoc, List.getElem?_append_left (by omega)]
   exact hx
 · rename_i hlt
   obtain ⟨x, hx, h⟩ := hb _ v hj
   have hlt' := (List.getElem?_eq_some_iff.1 hx).1
   refine ⟨x, ?_, h⟩
   rw [List.getElem?_append_left (by rw [List.length_append]; omega), List.getElem?_append_right (by omega), hl]
   exact hx
theorem InRow.deep {E : Env} {cs ds : List V} {xs : List Value} (h : deeps cs = some ds) (hr : InRow E cs xs) : InRowD E.I ds xs := by
 intro j d hj
 obtain ⟨v, hv, hvd⟩ := (deeps_spec h).2 j d hj
 obtain ⟨x, hx, hrx, _⟩ := hr j v hv
 exact ⟨x, hx, deep_rel hvd hrx⟩
theorem InRow.own {E : Env} {g : Bool} {cs ds : List V} {xs : List Value} (h : ownG g cs = some ds) (hl : xs.length = cs.length) (hr : InRow E cs xs) : InRow (E.ofG g) ds xs := by
 have hrl : RelL E cs xs.toArray := ⟨by simpa using hl, fun j v y hj hy => by
  obtain ⟨z, hz, hrz, _⟩ := hr j v hj
  have : xs[j]? = some y := by simpa using hy
  rw [this] at hz; cases hz; exact hrz⟩
 have h2 := ownG_rel h hrl
 intro j d hj
 have hlt : j < cs.length := by rw [← ownG_len h]; exact (List.getElem?_eq_some_iff.1 hj).1
 obtain ⟨x, hx, _, h1⟩ := hr j _ (List.getElem?_eq_getElem hlt)
 exact ⟨x, hx, h2.2 j d x hj (by simpa using hx), h1⟩
theorem InRow.relL {E : Env} {cs : List V} {xs : List Value} (hl : xs.length = cs.length) (hr : InRow E cs xs) : RelL E cs xs.toArray := ⟨by simpa using hl, fun j v y hj hy => by
 obtain ⟨z, hz, hrz, _⟩ := hr j v hj
 have : xs[j]? = some y := by simpa using hy
 rw [this] at hz; cases hz; exact hrz⟩
theorem InRow.mono {E F : Env} (h : E.Le F) {cs : List V} {xs : List Value} (hr : InRow E cs xs) : InRow F cs xs :=
 fun j v hj => let ⟨x, a, c, d⟩ := hr j v hj; ⟨x, a, c.mono h, d⟩
section
variable {P : Program} {o : Oper} {a : Act} {E : Env} {N : Nat} {st : St} {w : World} {fr : Fr} {next : Act → World → Prop} {Q : Exit → Act → World → Prop} {K : R → Prop}
theorem exec_append {s x : Operand} {ts : Array TypeId} {v : Value} {w' : World} (ho : o.op = .call { callee := .builtin .append, args := #[s, x], argTypes := ts })
 (h : (Builtin.append_ ts o.type #[a.eval s, a.eval x]).run P w = .ok v w') : (execOp a.eval o).run P w = .ok (.value v) w' := by
 simp [execOp, ho, resolve, invoke, builtin, h, Result.andThen]
theorem room_nat {n bytes : Nat} (h : roomOk n bytes = true) (hb : 0 < bytes) : n * bytes ≤ 140737488355328 ∧ n ≤ 9223372036854775807 := by
 have h1 : n * bytes ≤ 140737488355328 := by simpa [roomOk] using h
 have h2 : n * 1 ≤ n * bytes := Nat.mul_le_mul_left _ hb
 exact ⟨h1, by omega⟩
theorem Sim.drew (hs : Sim E st w) : Sim E st w.drew := Sim.of_heap (w := w) (w' := w.drew) rfl hs
theorem cells_three {ys xs : List Value} {z : Array Value} {n : Nat} : (ys.toArray ++ xs.toArray ++ Builtin.zeroCells z n).toList = ys ++ xs ++ (Builtin.zeroCells z n).toList := by simp
theorem size_three {ys xs : List Value} {z : Array Value} {n sz p q cap : Nat} (h1 : ys.length = p * sz) (h2 : xs.length = q * sz) (hz : z.size = sz) (hn : n = cap - (p + q)) (hc : p + q ≤ cap) :
 (ys.toArray ++ xs.toArray ++ Builtin.zeroCells z n).size = cap * sz := by
 have hs : ys.toArray.size + xs.toArray.size = (p + q) * sz := by rw [List.size_toArray, List.size_toArray, h1, h2, Nat.add_mul]
 rw [Array.size_append, Array.size_append, size_zeroCells, hz, hs, hn, ← Nat.add_mul]
 congr 1; omega
theorem alloc_heap (w : World) (ob : Go.Obj) : (w.drew.alloc ob).heap = w.heap.push ob := rfl
theorem alloc_out (w : World) (ob : Go.Obj) : SameOut w (w.drew.alloc ob) := ⟨rfl, rfl, rfl⟩
theorem set_els {sz : Nat} {es ds : List (List V)} (hl : ∀ e ∈ es, e.length = sz) (hd : ∀ e ∈ ds, e.length = sz) {p : Nat} (hin : p + ds.length ≤ es.length) :
 (es.take p ++ ds ++ es.drop (p + ds.length)).flatten = stCells es.flatten (p * sz) ds.flatten := by
 have hfe := flat_len hl
 have hfd := flat_len hd
 have hmul : (p + ds.length) * sz ≤ es.length * sz := Nat.mul_le_mul_right _ hin
 rw [Nat.add_mul] at hmul
 rw [List.flatten_append, List.flatten_append, flat_take hl, flat_drop hl, Nat.add_mul]
 apply List.ext_getElem?
 intro j
 rw [stCells_get _ _ _ _ (by omega)]
 have hlt : (es.flatten.take (p * sz)).length = p * sz := by rw [List.length_take]; omega
 by_cases h1 : j < p * sz
 · rw [List.getElem?_append_left (by rw [List.length_append, hlt]; omega), List.getElem?_append_left (by omega), if_neg (by omega), List.getElem?_take, if_pos h1]
 · by_cases h2 : j < p * sz + ds.flatten.length
   · rw [if_pos (by omega), List.getElem?_append_left (by rw [List.length_append, hlt]; omega), List.getElem?_append_right (by omega), hlt]
   · rw [if_neg (by omega), List.getElem?_append_right (by rw [List.length_append, hlt]; omega), List.length_append, hlt, List.getElem?_drop]
     congr 1; omega
theorem step_append {s x : Operand} {d e : Opd} {ts : Array TypeId} {t el : TypeId} {m : SMode} {sz bytes : Nat} (ho : o.op = .call { callee := .builtin .append, args := #[s, x], argTypes := ts })
 (ht : ts[0]? = some t) (hu : P.underlying t = some (.slice el)) (hel : elOk P el sz bytes = true) (hz : notInt P ts[1]? = true) (hx : okX s d = true) (hy : okX x e = true)
 (hs : Sim E st w) (hf : FrRel E N fr a) (hw : (step (.append m sz bytes d e) fr st).wp (ACall P) K) (hc : Cont E st w o a next K) : o.wp P a w next Q := by
 obtain ⟨i, z, hi, hz0, hsz, hby, hszp, hbyp, hzs⟩ := elOk_spec hel
 subst hsz
 subst hby
 have hr1 := okX_rel hx hf
 have hr2 := okX_rel hy hf
 simp only [step] at hw
 obtain ⟨new, xs, hw, hsh⟩ := elems_ok (P := P) hs hr2 hw
 have hfl := flat_len hsh.elen
 have hfc : (Builtin.firstCells i.size new.length (a.eval x)).run P w = .ok xs.toArray w := by
  have := hsh.first w rfl new.length (Nat.le_refl _)
  rwa [← hsh.xlen, List.take_length] at this
 have hfcd : (Builtin.firstCells i.size new.length (a.eval x)).run P w.drew = .ok xs.toArray w.drew := by
  have := hsh.first w.drew rfl new.length (Nat.le_refl _)
  rwa [← hsh.xlen, List.take_length] at this
 have hfc0 : (Builtin.firstCells i.size 0 (a.eval x)).run P w = .ok #[] w := by
  have := hsh.first w rfl 0 (Nat.zero_le _)
  simpa using this
 have hlen := hsh.len w
 unfold doAppend at hw
 split at hw
 · -- nil
   rename_i e1
   rw [e1] at hr1
   have hsv : a.eval s = .slice none 0 0 := by
    generalize a.eval s = y at hr1
    cases hr1 with
    | deep hd => cases hd; rfl
   split at hw
   · refine wp_val (x := .slice none 0 0) (exec_append ho ?_) (hc.same hs hw (.deep .nils))
     rw [hsv]
     exact run_append_none ht hu hi hz hlen hfc0 none 0 0 (Nat.le_refl _)
   · rename_i e0 r0
     obtain ⟨hroom, hw⟩ := hw
     obtain ⟨hb1, hb2⟩ := room_nat hroom hbyp
     have hrun := run_append_new (ty := o.type) (ys := []) ht hu hi hz0 hz hlen hfcd none 0 0 (by simp [Builtin.firstCells]) (by simp) (by simpa using hb1) (by simpa using hb2)
     rw [Nat.zero_add] at hrun
     have hge := grownCap_ge w (e0 :: r0).length 0 el
     have hsize := size_three (ys := []) (xs := xs) (z := z.cells) (n := grownCap w (e0 :: r0).length 0 el - (e0 :: r0).length) (p := 0) (q := (e0 :: r0).length) (cap := grownCap w (e0 :: r0).length 0 el) (by simp) hsh.xlen hzs (by simp) (by simpa using hge)
     obtain ⟨v, st', E', hk, s1, s2, hrel⟩ := newSlice_ok (w' := w.drew.alloc _) hw hs (fz := (0, 0)) (.inl rfl) (alloc_heap w _) (alloc_out w _) hsh.elen hsize hge
      (by rw [cells_three]; exact inRow_append (as := []) (fun j v hj => by simp at hj) rfl hsh.rel _)
     refine wp_val (exec_append ho (by rw [hsv]; exact hrun)) (hc _ _ E' _ _ hk s1 s2 hrel)
 · -- immutable elements
   rename_i tok sz' es e1
   rw [e1] at hr1
   split at hw
   case isFalse => exact hw.elim
   rename_i hzz
   subst hzz
   split at hw
   · generalize hsv : a.eval s = y at hr1
     have : ∃ b n c, y = .slice b n c ∧ n ≤ c := by
      cases hr1 with
      | deep hd =>
        cases hd with
        | slNil => exact ⟨_, _, _, rfl, Nat.le_refl _⟩
        | slE => exact ⟨_, _, _, rfl, Nat.le_refl _⟩
        | sl _ _ _ _ _ _ hc1 => exact ⟨_, _, _, rfl, hc1⟩
      | tsl _ _ _ _ _ _ hd hbk _ =>
        cases hd with
        | slE _ _ hs => exact absurd hbk.2 hs
        | sl _ _ _ _ _ _ hc1 => exact ⟨_, _, _, rfl, hc1⟩
     obtain ⟨b, n, c, rfl, hnc⟩ := this
     refine wp_val (x := .slice b n c) (exec_append ho ?_) (hc.same hs hw hr1)
     rw [hsv]
     exact run_append_none ht hu hi hz hlen hfc0 b n c hnc
   · rename_i e0 r0
     obtain ⟨hroom, ds, hds, hw⟩ := hw
     obtain ⟨hb1, hb2⟩ := room_nat hroom hbyp
     split at hw
     case h_2 => exact hw.elim
     rename_i k
     obtain ⟨ob, hob, hw⟩ := hw
     dsimp only at hw
     split at hw
     case h_2 => exact hw.elim
     obtain ⟨hd1, hd2, hd3⟩ := deepElems_spec hds
     have hd3 := hd3 hsh.elen
     have hrd : InRowD E.I ds.flatten xs := hsh.rel.deep hd1
     have hn : (e0 :: r0).length = ds.length := hd2.symm
     generalize hsv : a.eval s = y at hr1
     cases hr1 with
     | deep hd => cases hd
     | tsl _ _ _ ad cap hk hd hbk' hh =>
     have hbk := hbk'.1
     cases hd with
     | slE _ _ hs => exact absurd hbk'.2 hs
     | sl _ _ blk off _ val hcc hl hv hr =>
     have hfe := flat_len hl
     have hfd := flat_len hd3
     by_cases hg : es.length + ds.length ≤ cap
     · -- there is room
       have hpos : 0 < ds.length := by rw [← hn]; simp
       have hh : off + es.length * i.size = (E.μ k).base ∧ off + cap * i.size = (E.μ k).fin := by
        rcases hh with h | h
        · omega
        · exact h
       obtain ⟨hh2, hh3⟩ := hh
       have hh1 : blk = (E.μ k).blk := hbk
       obtain ⟨cells, ty, fz, r1, r2, r3, r4, r5⟩ := hs.obj k _ hob
       have hmul : (es.length + ds.length) * i.size ≤ cap * i.size := Nat.mul_le_mul_right _ hg
       rw [Nat.add_mul] at hmul
       have hxl : xs.length = ds.length * i.size := by rw [hsh.xlen, hn]
       have hend : (E.μ k).base + xs.length ≤ (E.μ k).fin := by omega
       have hth : w.there blk (off + es.length * i.size) xs.length := by
        rw [hh1, hh2]
        exact Row.there r1 r2 (by omega)
       have hrun := run_append_in (ty := o.type) ht hu hi hz hlen hfc blk off es.length cap (by rw [hn]; exact hg) hth hsh.one
       rw [hh1, hh2] at hrun
       obtain ⟨q1, q2, q3, q4⟩ := setCells_rest (E.μ k).blk xs (E.μ k).base w
       have hw' : (w.setCells (E.μ k).blk (E.μ k).base xs).heap[(E.μ k).blk]? = some (.cells (stArr cells (E.μ k).base xs) ty fz) := setCells_heap _ xs _ w r1
       have hcell : ∀ j, cellIn (w.setCells (E.μ k).blk (E.μ k).base xs) (E.μ k).blk j = if (E.μ k).base ≤ j ∧ j < (E.μ k).base + xs.length then xs[j - (E.μ k).base]? else cells[j]? := by
        intro j
        simp only [cellIn, hw']
        exact stArr_get _ _ _ _ (by omega)
       have hlive : st.live k := ⟨_, hob⟩
       obtain ⟨s1, s2⟩ := hs.move (w' := w.setCells (E.μ k).blk (E.μ k).base xs) hob k.isG ⟨(E.μ k).blk, (E.μ k).base + xs.length, (E.μ k).fin⟩
        (fun j => if (E.μ k).base ≤ j ∧ j < (E.μ k).base + xs.length then xs[j - (E.μ k).base]? else none) .spare rfl (by simp) (by simp) q1 (fun b hne => setCells_other _ hne _ _ _) q2 q3 q4
        (fun j x hx => by
          have h1 := hs.imm _ _ _ hx
          rw [hcell]
          split
          · rename_i hin
            have := hs.own k hlive j hin.1 (by omega)
            rw [this] at hx; cases hx
          · simpa [cellIn, r1] using h1)
        (fun j x hx => by
          split at hx
          · rename_i hin
            refine ⟨by rw [hcell, if_pos hin]; exact hx, ?_⟩
            simp only; omega
          · cases hx)
        ⟨_, ty, fz, hw', by rw [stArr_size]; exact r2, by simpa using hend, by rw [stArr_size]; exact r4, fun j v hj => by simp at hj⟩
       refine wp_val (exec_append ho (by rw [hsv]; rw [hh1]; exact hrun)) (hc _ _ _ _ _ hw s1 s2 ?_)
       have hnk := hs.newKey k.isG
       rw [St.newKey_remove, hnk]
       have hIn : ∀ j, (E.μ k).base ≤ j → j < (E.μ k).base + xs.length → E.I (E.μ k).blk j = none := fun j a b => hs.own k hlive j a (by omega)
       have hlen2 : es.length + (e0 :: r0).length = (es ++ ds).length := by rw [List.length_append, hn]
       rw [hlen2]
       have hrd' := hrd.mono s2.le.imm
       refine .tsl _ _ _ _ _ (Env.push_has_new _ _ _ _) (.sl _ _ _ _ _ (fun j => if j < es.length * i.size then val j else xs.getD (j - es.length * i.size) default) (by rw [List.length_append]; exact hg) (fun e he => by
        rcases List.mem_append.1 he with h | h
        · exact hl e h
        · exact hd3 e h) (fun j d hj => ?_) (fun j d hj => ?_)) (by rw [Env.push_new]; exact ⟨rfl, rfl⟩) (.inr ?_)
       · rw [List.flatten_append] at hj
         by_cases hjl : j < es.length * i.size
         · rw [List.getElem?_append_left (by omega)] at hj
           rw [if_pos hjl]
           have := hv j d hj
           rw [hh1] at this
           exact s2.le.imm _ _ _ this
         · rw [List.getElem?_append_right (by omega), hfe] at hj
           rw [if_neg hjl]
           have hjx : j - es.length * i.size < xs.length := by
            have := (List.getElem?_eq_some_iff.1 hj).1
            omega
           simp only [Env.push]
           rw [hIn (off + j) (by omega) (by omega)]
           simp only [if_true]
           rw [if_pos (by omega), show off + j - (E.μ k).base = j - es.length * i.size by omega]
           simp [hjx]
       · rw [List.flatten_append] at hj
         by_cases hjl : j < es.length * i.size
         · rw [List.getElem?_append_left (by omega)] at hj
           rw [if_pos hjl]
           exact (hr j d hj).mono s2.le.imm
         · rw [List.getElem?_append_right (by omega), hfe] at hj
           rw [if_neg hjl]
           obtain ⟨x0, hx0, hrx⟩ := hrd' _ d hj
           simp only [List.getD_eq_getElem?_getD, hx0]
           exact hrx
       · rw [Env.push_new]
         refine ⟨?_, ?_⟩
         · simp only [List.length_append, Nat.add_mul]; omega
         · exact hh3
     · -- a new block
       have hold : (Builtin.firstCells i.size es.length (.slice (some ⟨blk, off, none⟩) es.length cap)).run P w.drew = .ok ((List.range (es.length * i.size)).map val).toArray w.drew := by
        refine run_firstCells_some (P := P) w.drew i.size es.length ⟨blk, off, none⟩ es.length cap _ (by simp) fun j v hj => ?_
        rw [Addr.add_mid]
        rw [List.getElem?_map] at hj
        have hlt : j < es.length * i.size := by
         rcases Nat.lt_or_ge j (es.length * i.size) with h | h
         · exact h
         · rw [List.getElem?_eq_none (by simp; omega)] at hj; cases hj
        rw [List.getElem?_range hlt] at hj
        simp only [Option.map_some, Option.some.injEq] at hj
        subst hj
        have hex : ∃ dd, es.flatten[j]? = some dd := ⟨es.flatten[j], by simp⟩
        obtain ⟨dd, hdd⟩ := hex
        have := hs.imm _ _ _ (hv j dd hdd)
        rw [cell?_eq]
        exact this
       have hrun := run_append_new (ty := o.type) ht hu hi hz0 hz hlen hfcd (some ⟨blk, off, none⟩) es.length cap hold (by omega) hb1 hb2
       have hge := grownCap_ge w (es.length + (e0 :: r0).length) cap el
       have hsize := size_three (ys := (List.range (es.length * i.size)).map val) (xs := xs) (z := z.cells) (p := es.length) (q := (e0 :: r0).length) (by simp) hsh.xlen hzs rfl hge
       have hold2 : InRowD E.I es.flatten ((List.range (es.length * i.size)).map val) := by
        intro j d hj
        have hlt : j < es.length * i.size := by rw [← hfe]; exact (List.getElem?_eq_some_iff.1 hj).1
        exact ⟨val j, by simp [hlt], hr j d hj⟩
       obtain ⟨E', s1, s2, hrel⟩ := fresh_im (z := 1) (w' := w.drew.alloc _) hs (some k) k.isG (fz := (0, 0)) (.inl rfl) (alloc_heap w _) (alloc_out w _) (ds := es ++ ds) (fun e he => by
        rcases List.mem_append.1 he with h | h
        · exact hl e h
        · exact hd3 e h) hsize (by rw [List.length_append, ← hn]; exact hge)
        (by rw [cells_three, List.flatten_append]; exact inRowD_append hold2 (by simp [hfe]) hrd _)
       refine wp_val (exec_append ho (by rw [hsv]; exact hrun)) (hc _ _ E' _ _ hw s1 s2 ?_)
       rw [List.length_append, ← hn] at hrel
       rw [St.newKey_remove]
       exact hrel
 · -- elements that may be written
   rename_i k sz' off len e1
   rw [e1] at hr1
   split at hw
   case isFalse => exact hw.elim
   rename_i hzz
   subst hzz
   generalize hsv : a.eval s = y at hr1
   cases hr1 with
   | deep hd => cases hd
   | ms _ _ _ _ ad cap hk hcc hh hbk ha =>
   split at hw
   · refine wp_val (x := .slice (some ad) len cap) (exec_append ho ?_) (hc.same hs hw (.ms _ _ _ _ _ _ hk hcc hh hbk ha))
     rw [hsv]
     exact run_append_none ht hu hi hz hlen hfc0 (some ad) len cap hcc
   · rename_i e0 r0
     obtain ⟨hroom, ds, hds, ob, hob, hw⟩ := hw
     obtain ⟨hb1, hb2⟩ := room_nat hroom hbyp
     dsimp only at hw
     split at hw
     case h_2 => exact hw.elim
     rename_i sz'' es
     split at hw
     case isFalse => exact hw.elim
     rename_i hzz
     subst hzz
     obtain ⟨hin, hw⟩ := hw
     have hin : off + len ≤ es.length := by simpa using hin
     obtain ⟨hd1, hd2, hd3⟩ := ownElems_spec hds
     have hd3 := hd3 hsh.elen
     have hn : (e0 :: r0).length = ds.length := hd2.symm
     have hrd : InRow (E.ofG k.isG) ds.flatten xs := hsh.rel.own hd1 (by rw [hsh.xlen, hfl])
     obtain ⟨hl, cells, ty, fz, r1, r2, r3, r4, r5⟩ := hs.obj k _ hob
     have hfe := flat_len hl
     have hfd := flat_len hd3
     have hxl : xs.length = ds.length * i.size := by rw [hsh.xlen, hn]
     have hrds := hrd.relL (by rw [hxl, hfd])
     have hpos : 0 < ds.length := by rw [← hn]; simp
     have hcl : es.length ≤ off + cap := by
      have : es.length * i.size ≤ (off + cap) * i.size := by omega
      exact Nat.le_of_mul_le_mul_right this hszp
     have hlive : st.live k := ⟨_, hob⟩
     have hll : len + (e0 :: r0).length = len + ds.length := by rw [hn]
     rw [Nat.add_mul] at hh
     by_cases hfit : off + len + ds.length ≤ es.length
     · -- in what is known
       have hk1 := hw.1 (by simpa using hfit)
       have hroom2 : len + ds.length ≤ cap := by omega
       have ha : ad = ⟨(E.μ k).blk, (E.μ k).base + off * i.size, none⟩ := by
        rcases ha with h | h
        · omega
        · exact h
       subst ha
       have hm1 : (off + len + ds.length) * i.size ≤ es.length * i.size := Nat.mul_le_mul_right _ hfit
       rw [Nat.add_mul, Nat.add_mul] at hm1
       have hth : w.there (E.μ k).blk ((E.μ k).base + off * i.size + len * i.size) xs.length := Row.there r1 r2 (by omega)
       have hrun := run_append_in (ty := o.type) ht hu hi hz hlen hfc _ _ len cap (by rw [hn]; exact hroom2) hth hsh.one
       rw [hll, Nat.add_assoc, ← Nat.add_mul] at hrun
       have hset := set_els hl hd3 (p := off + len) hfit
       have hrow := RowOf.written r1 r2 r3 r4 r5 (off := (off + len) * i.size) (vs := ds.flatten) (xs := xs) (by rw [Env.at_isG]; exact hrds) hsh.one (by rw [Nat.add_mul]; omega)
       rw [← hset] at hrow
       have hl2 : ∀ e ∈ es.take (off + len) ++ ds ++ es.drop (off + len + ds.length), e.length = i.size := by
        intro e he
        rcases List.mem_append.1 he with h | h
        · rcases List.mem_append.1 h with h | h
          · exact hl e (List.mem_of_mem_take h)
          · exact hd3 e h
        · exact hl e (List.mem_of_mem_drop h)
       obtain ⟨s1, s2⟩ := hs.write hob r1 r4 (pos := (E.μ k).base + (off + len) * i.size) (xs := xs) (by omega) (by rw [Nat.add_mul]; omega) (.arr i.size (es.take (off + len) ++ ds ++ es.drop (off + len + ds.length))) ⟨hl2, hrow⟩
       exact wp_val (exec_append ho (by rw [hsv]; exact hrun)) (hc _ _ E _ _ hk1 s1 s2 (.ms _ _ _ _ _ _ hk (by omega) (by rw [Nat.add_mul]; exact hh) rfl (.inr rfl)))
     · have hk2 := hw.2 (by simpa using hfit)
       rw [St.newKey_remove] at hk2
       have hflat : ((es.take (off + len)).drop off ++ ds).flatten = (es.flatten.drop (off * i.size)).take (len * i.size) ++ ds.flatten := by
        have hlt : ∀ e ∈ es.take (off + len), e.length = i.size := fun e he => hl e (List.mem_of_mem_take he)
        rw [List.flatten_append, flat_drop hlt, flat_take hl, List.drop_take, Nat.add_mul]
        congr 2; omega
       have hl2 : ∀ e ∈ (es.take (off + len)).drop off ++ ds, e.length = i.size := by
        intro e he
        rcases List.mem_append.1 he with h | h
        · exact hl e (List.mem_of_mem_take (List.mem_of_mem_drop h))
        · exact hd3 e h
       have hlen3 : ((es.take (off + len)).drop off ++ ds).length = len + ds.length := by
        rw [List.length_append, List.length_drop, List.length_take]; omega
       have hm0 : (off + len) * i.size ≤ es.length * i.size := Nat.mul_le_mul_right _ hin
       rw [Nat.add_mul] at hm0
       by_cases hroom2 : len + ds.length ≤ cap
       · -- in the spare room
         have ha : ad = ⟨(E.μ k).blk, (E.μ k).base + off * i.size, none⟩ := by
          rcases ha with h | h
          · omega
          · exact h
         subst ha
         have hm1 : (len + ds.length) * i.size ≤ cap * i.size := Nat.mul_le_mul_right _ hroom2
         rw [Nat.add_mul] at hm1
         have hth : w.there (E.μ k).blk ((E.μ k).base + off * i.size + len * i.size) xs.length := Row.there r1 r2 (by omega)
         have hrun := run_append_in (ty := o.type) ht hu hi hz hlen hfc _ _ len cap (by rw [hn]; exact hroom2) hth hsh.one
         rw [hll] at hrun
         obtain ⟨q1, q2, q3, q4⟩ := setCells_rest (E.μ k).blk xs ((E.μ k).base + off * i.size + len * i.size) w
         have hw' := setCells_heap _ xs ((E.μ k).base + off * i.size + len * i.size) w r1
         have hcell : ∀ j, (stArr cells ((E.μ k).base + off * i.size + len * i.size) xs)[j]? = if (E.μ k).base + off * i.size + len * i.size ≤ j ∧ j < (E.μ k).base + off * i.size + len * i.size + xs.length then xs[j - ((E.μ k).base + off * i.size + len * i.size)]? else cells[j]? := by
          intro j
          exact stArr_get _ _ _ _ (by omega)
         obtain ⟨s1, s2⟩ := hs.move (w' := w.setCells (E.μ k).blk ((E.μ k).base + off * i.size + len * i.size) xs) hob k.isG ⟨(E.μ k).blk, (E.μ k).base + off * i.size, (E.μ k).fin⟩
          (fun _ => none) (.arr i.size ((es.take (off + len)).drop off ++ ds)) rfl (by simp) (by simp) q1 (fun b hne => setCells_other _ hne _ _ _) q2 q3 q4
          (fun j x hx => by
            have h1 := hs.imm _ _ _ hx
            simp only [cellIn, hw', hcell]
            split
            · rename_i hin2
              have := hs.own k hlive j (by omega) (by omega)
              rw [this] at hx; cases hx
            · simpa [cellIn, r1] using h1)
          (fun j x hx => by cases hx)
          ⟨hl2, _, ty, fz, hw', by rw [stArr_size]; exact r2, by
           rw [flat_len hl2, hlen3, Nat.add_mul]; simp only; omega, by rw [stArr_size]; exact r4, fun j v hj => by
           rw [hflat] at hj
           rw [Env.at_newKey]
           have hle : (E.ofG k.isG).Le ((E.push k.isG ⟨(E.μ k).blk, (E.μ k).base + off * i.size, (E.μ k).fin⟩ fun b j => if b = (E.μ k).blk then (fun _ => none) j else none).ofG k.isG) := Env.ofG_push _ _ _ _ _
           have htl : ((es.flatten.drop (off * i.size)).take (len * i.size)).length = len * i.size := by
            rw [List.length_take, List.length_drop]; omega
           simp only [hcell]
           by_cases hjl : j < len * i.size
           · rw [List.getElem?_append_left (by omega), List.getElem?_take, if_pos hjl, List.getElem?_drop] at hj
             rw [if_neg (by omega)]
             obtain ⟨x0, hx0, hr0, h10⟩ := r5 _ v hj
             rw [Nat.add_assoc]
             rw [Env.at_isG] at hr0
             exact ⟨x0, hx0, hr0.mono hle, h10⟩
           · rw [List.getElem?_append_right (by omega), htl] at hj
             obtain ⟨x0, hx0, hr0, h10⟩ := hrd _ v hj
             have := (List.getElem?_eq_some_iff.1 hx0).1
             rw [if_pos (by omega)]
             refine ⟨x0, ?_, hr0.mono hle, h10⟩
             rw [← hx0]; congr 1; omega⟩
         refine wp_val (exec_append ho (by rw [hsv]; exact hrun)) (hc _ _ _ _ _ hk2 s1 s2 ?_)
         have hnk := hs.newKey k.isG
         rw [hnk]
         refine .ms _ _ _ _ _ _ (Env.push_has_new _ _ _ _) (by omega) ?_ (by rw [Env.push_new]) (.inr ?_)
         · rw [Env.push_new]; simp only [Nat.zero_add]; omega
         · rw [Env.push_new]; simp
       · -- a new block
         have hys : ∃ ys : List Value, ys.length = len * i.size ∧ InRow (E.ofG k.isG) ((es.flatten.drop (off * i.size)).take (len * i.size)) ys ∧
          (Builtin.firstCells i.size len (.slice (some ad) len cap)).run P w.drew = .ok ys.toArray w.drew := by
          rcases ha with h0 | ha
          · have hl0 : len = 0 := by omega
            subst hl0
            refine ⟨[], by simp, fun j v hj => by simp at hj, ?_⟩
            simp [Builtin.firstCells, loadCells, loadCellsFrom]
          · subst ha
            have hcat : CellsAt (E.ofG k.isG) w (E.μ k).blk ((E.μ k).base + off * i.size) ((es.flatten.drop (off * i.size)).take (len * i.size)) := by
             have h1 : RowOf i.size (E.at k) w (E.μ k) es.flatten := ⟨cells, ty, fz, r1, r2, r3, r4, r5⟩
             have := h1.cellsAt.sub (off * i.size) (len * i.size)
             rw [Env.at_isG] at this
             exact this
            obtain ⟨ys, y1, y2, y3, y4⟩ := hcat.list
            have hyl : ys.length = len * i.size := by rw [y1, List.length_take, List.length_drop]; omega
            refine ⟨ys, hyl, fun j v hj => ?_, ?_⟩
            · obtain ⟨x0, hx0, hr0⟩ := y3.get hj
              have hx0' : ys[j]? = some x0 := by simpa using hx0
              exact ⟨x0, hx0', hr0, y4 x0 (List.mem_of_getElem? hx0')⟩
            · refine run_firstCells_some (P := P) w.drew i.size len _ len cap ys hyl fun j v hj => ?_
              rw [Addr.add_mid]
              have := y2 j v hj
              exact this
         obtain ⟨ys, hyl, hyr, hold⟩ := hys
         have hrun := run_append_new (ty := o.type) ht hu hi hz0 hz hlen hfcd (some ad) len cap hold (by omega) hb1 hb2
         have hge := grownCap_ge w (len + (e0 :: r0).length) cap el
         have hsize := size_three (ys := ys) (xs := xs) (z := z.cells) (p := len) (q := (e0 :: r0).length) hyl hsh.xlen hzs rfl hge
         obtain ⟨E', s1, s2, hrel⟩ := fresh_mu (w' := w.drew.alloc _) hs (some k) k.isG (fz := (0, 0)) (.inl rfl) (alloc_heap w _) (alloc_out w _) (ds := (es.take (off + len)).drop off ++ ds) hl2 hsize (by rw [hlen3, ← hn]; exact hge)
          (by
            rw [cells_three, hflat]
            exact inRow_append hyr (by rw [hyl, List.length_take, List.length_drop]; omega) hrd _)
         refine wp_val (exec_append ho (by rw [hsv]; exact hrun)) (hc _ _ E' _ _ hk2 s1 s2 ?_)
         rw [hlen3] at hrel
         rw [hll] at *
         exact hrel
 · exact hw.elim
end
end Go.Eng
/-
Each operation of the model does what the abstract step says (part nine: new slices, bytes and strings).
-/
namespace Go.Eng
open Go
theorem Heap.upd_self : ∀ (l : List (Nat × Obj)) (n : Nat) (o : Obj), Heap.find l n = some o → Heap.upd l n o = l
 | [], _, _, h => by cases h
 | (k, x) :: r, n, o, h => by
  simp only [Heap.find] at h
  simp only [Heap.upd]
  split at h
  · rename_i hk
    rw [if_pos hk]
    simp only [Option.some.injEq] at h
    subst h; rfl
  · rename_i hk
    rw [if_neg hk, Heap.upd_self r n o h]
theorem St.set_self {st : St} {k : Key} {o : Obj} (h : st.get k = some o) : st.set k o = st := by
 cases k with
 | g n => simp only [St.set, Heap.set]; rw [Heap.upd_self _ _ _ h]
 | l n => simp only [St.set, Heap.set]; rw [Heap.upd_self _ _ _ h]
section
variable {P : Program} {o : Oper} {a : Act} {E : Env} {N : Nat} {st : St} {w : World} {fr : Fr} {next : Act → World → Prop} {Q : Exit → Act → World → Prop} {K : R → Prop}
/-! Rows of one element, again and again. -/
theorem replicate_get {zero : List V} {n j : Nat} (hj : j < n * zero.length) : (List.replicate n zero).flatten[j]? = zero[j % zero.length]? := by
 have hp : 0 < zero.length := by
  rcases Nat.eq_zero_or_pos zero.length with h | h
  · rw [h] at hj; simp at hj
  · exact h
 have hl : ∀ e ∈ List.replicate n zero, e.length = zero.length := fun e he => by rw [(List.mem_replicate.1 he).2]
 have hq : j / zero.length < n := (Nat.div_lt_iff_lt_mul hp).2 hj
 have := flat_get hl (ix := j / zero.length) (j := j % zero.length) (e := zero) (by simp [hq]) (Nat.mod_lt _ hp)
 rw [← this]
 congr 1
 rw [Nat.mul_comm]; exact (Nat.div_add_mod j _).symm
theorem made_get {z : Array Value} {n j : Nat} (hz : 0 < z.size) (hj : j < n) : (madeCells z n)[j]? = z[j % z.size]? := by
 have hm : j % z.size < z.size := Nat.mod_lt _ hz
 simp [madeCells, hj, hm]
theorem made_rel {z : Array Value} {zero : List V} {len : Nat} (hr : RelL E zero z) (hp : 0 < zero.length) : RelL E (List.replicate len zero).flatten (madeCells z (len * zero.length)) := by
 have hl : ∀ e ∈ List.replicate len zero, e.length = zero.length := fun e he => by rw [(List.mem_replicate.1 he).2]
 have hfl := flat_len hl
 rw [List.length_replicate] at hfl
 refine ⟨by rw [size_madeCells, hfl], fun j v x hj hx => ?_⟩
 have hlt : j < len * zero.length := by rw [← hfl]; exact (List.getElem?_eq_some_iff.1 hj).1
 have hzs := hr.1
 rw [replicate_get hlt] at hj
 rw [made_get (by omega) hlt, hzs] at hx
 exact hr.2 _ v x hj hx
theorem made_one {z : Array Value} {n : Nat} (h1 : ∀ (j : Nat) (x : Value), z[j]? = some x → x.oneCell' = true) (hz : 0 < z.size) (j : Nat) (x : Value) (hx : (madeCells z n)[j]? = some x) : x.oneCell' = true := by
 have hlt : j < n := by
  have := (Array.getElem?_eq_some_iff.1 hx).1
  rwa [size_madeCells] at this
 rw [made_get hz hlt] at hx
 exact h1 _ x hx
/-! A slice put together. -/
theorem stCells_all : ∀ {vs e : List V}, vs.length = e.length → stCells e 0 vs = vs := by
 intro vs e h
 apply List.ext_getElem?
 intro j
 rw [stCells_get _ _ _ _ (by omega)]
 by_cases hj : j < vs.length
 · rw [if_pos (by omega)]; rfl
 · rw [if_neg (by omega), List.getElem?_eq_none (by omega), List.getElem?_eq_none (by omega)]
def flatParts (sz : Nat) : List (Nat × V) → List (Nat × Nat × V)
 | [] => []
 | (i, v) :: r => (i * sz, sz, v) :: flatParts sz r
theorem fillElems_flat {sz : Nat} : ∀ {ps : List (Nat × V)} {es es' : List (List V)}, (∀ e ∈ es, e.length = sz) → fillElems es sz ps = some es' →
 fillParts es.flatten (flatParts sz ps) = some es'.flatten ∧ (∀ e ∈ es', e.length = sz) ∧ es'.length = es.length
 | [], es, es', hl, h => by
   simp only [fillElems, Option.some.injEq] at h
   subst h
   exact ⟨rfl, hl, rfl⟩
 | (i, v) :: r, es, es', hl, h => by
  simp only [fillElems] at h
  split at h
  case isFalse => cases h
  rename_i hc
  obtain ⟨h1, h2, h3⟩ := hc
  have hl2 : ∀ e ∈ es.set i v.cells, e.length = sz := by
   intro e he
   rcases List.mem_or_eq_of_mem_set he with h | h
   · exact hl e h
   · rw [h]; exact h2
  obtain ⟨e1, e2, e3⟩ := fillElems_flat hl2 h
  have hfl := flat_len hl
  have hmul : (i + 1) * sz ≤ es.length * sz := Nat.mul_le_mul_right _ h3
  rw [Nat.succ_mul] at hmul
  refine ⟨?_, e2, by rw [e3]; simp⟩
  simp only [flatParts, fillParts]
  rw [if_pos ⟨h1, h2, by omega⟩]
  have hel : es[i]? = some es[i] := by simp [h3]
  have := set_flat hl hel 0 v.cells (by omega)
  rw [stCells_all (by rw [h2, hl _ (List.getElem_mem h3)]), Nat.add_zero] at this
  rw [← this]
  exact e1
def partsOkS : List (Nat × Operand) → List (Nat × Opd) → Bool
 | [], [] => true
 | (i, x) :: r, (j, d) :: q => decide (i = j) && okX x d && partsOkS r q
 | _, _ => false
theorem partsOkS_spec {sz : Nat} (hf : FrRel E N fr a) : ∀ {ps : List (Nat × Operand)} {qs : List (Nat × Opd)}, partsOkS ps qs = true →
 (flatParts sz (evPartsS fr qs)).length = ps.length ∧ ∀ (j : Nat) (q : Nat × Nat × V) (p : Nat × Operand), (flatParts sz (evPartsS fr qs))[j]? = some q → ps[j]? = some p → (q.1 = p.1 * sz ∧ q.2.1 = sz) ∧ Rel E q.2.2 (a.eval p.2)
 | [], [], _ => ⟨rfl, fun j q p hq => by simp [evPartsS, flatParts] at hq⟩
 | (i, x) :: r, (i', d) :: q, h => by
  simp only [partsOkS, Bool.and_eq_true, decide_eq_true_eq] at h
  obtain ⟨⟨h0, h2⟩, h3⟩ := h
  subst h0
  obtain ⟨l1, l2⟩ := partsOkS_spec (sz := sz) hf h3
  refine ⟨by simp [evPartsS, flatParts, l1], fun j y p hy hp => ?_⟩
  cases j with
  | zero =>
    simp [evPartsS, flatParts] at hy hp
    subst hy; subst hp
    exact ⟨⟨rfl, rfl⟩, okX_rel h2 hf⟩
  | succ j => exact l2 j y p (by simpa [evPartsS, flatParts] using hy) (by simpa using hp)
 | [], _ :: _, h => by cases h
 | (_, _) :: _, [], h => by simp [partsOkS] at h
theorem RelL.inRow {cs : List V} {xs : Array Value} (hr : RelL E cs xs) (h1 : ∀ (j : Nat) (x : Value), xs[j]? = some x → x.oneCell' = true) : InRow E cs xs.toList := by
 intro j v hj
 obtain ⟨x, hx, hrx⟩ := hr.get hj
 exact ⟨x, by simpa using hx, hrx, h1 j x hx⟩
theorem step_bsl {t el : TypeId} {len : Nat} {ps : Array (Nat × Operand)} {qs : List (Nat × Opd)} {m : SMode} {sz bytes : Nat} {zero : List V} (ho : o.op = .buildSlice t len ps)
 (hu : P.underlying t = some (.slice el)) (hel : elOk P el sz bytes = true) (hzo : zeroOk P el zero = true) (hsmall : len * sz ≤ 16777216) (hp : partsOkS ps.toList qs = true)
 (hs : Sim E st w) (hf : FrRel E N fr a) (hw : (step (.bsl m sz len zero qs) fr st).wp (ACall P) K) (hc : Cont E st w o a next K) : o.wp P a w next Q := by
 obtain ⟨i, z, hi, hz0, hsz, hby, hszp, hbyp, hzs⟩ := elOk_spec hel
 obtain ⟨i', z', hi', hz0', hsz', hr, hl, h1⟩ := zeroOk_spec hzo
 rw [hi] at hi'; cases hi'
 rw [hz0] at hz0'; cases hz0'
 have hzl : zero.length = sz := by omega
 simp only [step] at hw
 unfold T.opt at hw
 split at hw
 case h_2 => exact hw.elim
 rename_i es hfe
 have hlr : ∀ e ∈ List.replicate len zero, e.length = sz := fun e he => by rw [(List.mem_replicate.1 he).2]; exact hzl
 obtain ⟨f1, f2, f3⟩ := fillElems_flat hlr hfe
 rw [List.length_replicate] at f3
 obtain ⟨l1, l2⟩ := partsOkS_spec (sz := sz) hf hp
 have hmr := made_rel (len := len) (hr E) (by omega)
 have hmo := made_one (n := len * zero.length) h1 (by omega)
 rw [hzl] at hmr hmo
 obtain ⟨zs, hz1, hz2, hz3⟩ := fill_rel (E := E) (fun k => some (k * sz, sz)) [] (flatParts sz (evPartsS fr qs)) (ps.toList.map fun q => (q.1, a.eval q.2)) _ _ _ f1 hmr hmo (by simp [l1]) (fun j q x hq hx => by
  rw [List.getElem?_map] at hx
  cases hpj : ps.toList[j]? with
  | none => rw [hpj] at hx; cases hx
  | some p =>
    rw [hpj] at hx
    simp only [Option.map_some, Option.some.injEq] at hx
    subst hx
    obtain ⟨⟨ho1, ho2⟩, hrel⟩ := l2 j q p hq hpj
    exact ⟨by simp [ho1, ho2], hrel⟩)
 have hzsz : zs.size = len * sz := by rw [hz2.1, flat_len f2, f3]
 obtain ⟨v, st', E', hk, s1, s2, hrel⟩ := newSlice_ok (w' := w.alloc (.cells zs el)) hw hs (fz := (0, 0)) (.inl rfl) rfl ⟨rfl, rfl, rfl⟩ f2 hzsz (by omega) (hz2.inRow hz3)
 refine wp_val (x := .slice (some ⟨w.heap.size, 0, none⟩) len len) ?_ (hc _ _ E' _ _ hk s1 s2 (by rw [← f3]; rw [← f3] at hrel; exact hrel))
 have hparts : (ps.map fun (q : Nat × Operand) => (q.1, a.eval q.2)).toList = ps.toList.map fun q => (q.1, a.eval q.2) := by simp
 simp only [execOp, ho, Instr.buildSlice, Sem.run_bind, run_underlying hu, Result.andThen_ok]
 have hns : ¬ (len * sz > 16777216) := by omega
 by_cases h0 : len * sz = 0
 · have he : len = 0 := by
    rcases Nat.mul_eq_zero.1 h0 with h | h
    · exact h
    · omega
   subst he
   have hm0 : madeCells z.cells (0 * sz) = #[] := by
    apply Array.eq_empty_of_size_eq_zero
    rw [size_madeCells]; omega
   rw [hm0] at hz1
   simp [sizeOf, typeInfo, hi, newRow, hsz, Array.range_zero', hz1]
 · have h00 : ¬ (len = 0 ∨ sz = 0) := by
    rintro (h | h)
    · simp [h] at h0
    · omega
   simp only [madeCells] at hz1
   simp [sizeOf, typeInfo, hi, hsz, hns, zeroValue, hz0, newRow, hz1]
   exact fun h => absurd h h0
theorem step_mksl {t el : TypeId} {x y : Operand} {d e : Opd} {m : SMode} {sz bytes : Nat} {zero : List V} (ho : o.op = .makeSlice t x y) (hx : okX x d = true) (hy : okX y e = true)
 (hu : P.underlying t = some (.slice el)) (hel : elOk P el sz bytes = true) (hzo : zeroOk P el zero = true)
 (hs : Sim E st w) (hf : FrRel E N fr a) (hw : (step (.mksl m sz bytes zero d e) fr st).wp (ACall P) K) (hc : Cont E st w o a next K) : o.wp P a w next Q := by
 obtain ⟨i, z, hi, hz0, hsz, hby, hszp, hbyp, hzs⟩ := elOk_spec hel
 obtain ⟨i', z', hi', hz0', hsz', hr, hl, h1⟩ := zeroOk_spec hzo
 rw [hi] at hi'; cases hi'
 rw [hz0] at hz0'; cases hz0'
 have hzl : zero.length = sz := by omega
 have r1 := okX_rel hx hf
 have r2 := okX_rel hy hf
 simp only [step] at hw
 split at hw
 case h_2 => exact hw.elim
 rename_i k p k' q e1 e2
 rw [e1] at r1
 rw [e2] at r2
 have r1 := r1.int
 have r2 := r2.int
 obtain ⟨hck, hw⟩ := hw
 simp only [Bool.and_eq_true, decide_eq_true_eq] at hck
 obtain ⟨⟨h0, hpq⟩, hroom⟩ := hck
 subst hpq
 obtain ⟨hb1, hb2⟩ := room_nat hroom hbyp
 have hbb : (i.bytes : Int) * p ≤ 281474976710656 := by
  have h3 : ((i.bytes * p.toNat : Nat) : Int) ≤ 281474976710656 := by rw [hby, Nat.mul_comm]; omega
  rw [Int.natCast_mul] at h3
  rwa [Int.toNat_of_nonneg h0] at h3
 have hrun := run_make (P := P) w t el i z hu hi hz0 k k' p p h0 (Int.le_refl _) hbb (by omega)
 have hmr := made_rel (len := p.toNat) (hr E) (by omega)
 have hmo := made_one (n := p.toNat * zero.length) h1 (by omega)
 rw [hzl] at hmr hmo
 have hlr : ∀ e ∈ List.replicate p.toNat zero, e.length = sz := fun e he => by rw [(List.mem_replicate.1 he).2]; exact hzl
 rw [hsz] at hrun
 obtain ⟨v, st', E', hk, s1, s2, hrel⟩ := newSlice_ok (w' := w.alloc (.cells (madeCells z.cells (p.toNat * sz)) el)) hw hs (fz := (0, 0)) (.inl rfl) rfl ⟨rfl, rfl, rfl⟩ hlr (cap := p.toNat) (size_madeCells _ _) (by simp) (hmr.inRow hmo)
 rw [List.length_replicate] at hrel
 exact wp_val (x := .slice (some ⟨w.heap.size, 0, none⟩) p.toNat p.toNat) (by simp [execOp, ho, r1, r2, hrun]) (hc _ _ E' _ _ hk s1 s2 hrel)
/-! Bytes. -/
theorem FzOk.mark {fz : Nat × Nat} {n : Nat} (h : FzOk 1 fz n) : FzOk 1 (if fz.1 == fz.2 then (n, n + 1) else (min fz.1 n, max fz.2 (n + 1))) n := by
 obtain ⟨lo, hi⟩ := fz
 simp only [FzOk] at *
 split
 · exact .inr ⟨Nat.le_refl _, trivial⟩
 · rename_i hne
   simp at hne
   rcases h with h | h
   · exact absurd h hne
   · exact .inr ⟨by simp only; omega, trivial⟩
theorem freeze_heap {b n : Nat} {c : Array Value} {t : TypeId} {fz : Nat × Nat} (h : w.heap[b]? = some (.cells c t fz)) :
 (w.freeze ⟨b, n, none⟩ 1).heap[b]? = some (.cells c t (if fz.1 == fz.2 then (n, n + 1) else (min fz.1 n, max fz.2 (n + 1)))) := by
 simp [World.freeze, Array.getElem?_modify, h]
theorem freeze_other {b b' n : Nat} (h : b' ≠ b) : (w.freeze ⟨b, n, none⟩ 1).heap[b']? = w.heap[b']? := by
 simp only [World.freeze]
 simp only [Nat.succ_ne_zero, if_false, Array.getElem?_modify]
 rw [if_neg (fun e => h e.symm)]
theorem freeze_push {ob : Array Value} {t : TypeId} {n : Nat} : ((w.drew.alloc (.cells ob t)).freeze ⟨w.heap.size, n, none⟩ 1).heap = w.heap.push (.cells ob t (n, n + 1)) := by
 apply Array.ext_getElem?
 intro j
 by_cases hj : j = w.heap.size
 · subst hj
   rw [freeze_heap (c := ob) (t := t) (fz := (0, 0)) (by rw [alloc_heap]; simp)]
   simp
 · rw [freeze_other hj, alloc_heap]
   simp only [Array.getElem?_push, if_neg hj]
theorem run_markStringish {b off : Nat} {c : Array Value} {t : TypeId} {fz : Nat × Nat} (h : w.heap[b]? = some (.cells c t fz)) :
 (markStringish ⟨b, off, none⟩).run P w = .ok () (w.freeze ⟨b, c.size, none⟩ 1) := by
 simp [markStringish, shape, freeze, Sem.run, World.shape?, h]
theorem byteCells_len (l : List UInt8) : (byteCells l).length = l.length := by simp [byteCells]
theorem byteCells_sz (l : List UInt8) : ∀ e ∈ byteCells l, e.length = 1 := by
 intro e he
 simp only [byteCells, List.mem_map] at he
 obtain ⟨c, _, rfl⟩ := he
 rfl
theorem byteCells_rel (l : List UInt8) (rest : List Value) : InRow E (byteCells l).flatten (l.map (fun c => Value.int .u8 c.toNat) ++ rest) := by
 intro j v hj
 rw [byteCells_flat, List.getElem?_map] at hj
 cases hc : l[j]? with
 | none => rw [hc] at hj; cases hj
 | some c =>
   rw [hc] at hj
   simp only [Option.map_some, Option.some.injEq] at hj
   subst hj
   have hlt := (List.getElem?_eq_some_iff.1 hc).1
   exact ⟨.int .u8 c.toNat, by rw [List.getElem?_append_left (by simpa using hlt)]; simp [hc], .deep (.i _ _), rfl⟩
theorem step_s2b {t t' el : TypeId} {x : Operand} {d : Opd} {m : SMode} (ho : o.op = .convert t t' x) (hx : okX x d = true) (hus : P.underlying t = some .string) (hu : P.underlying t' = some (.slice el)) (he : P.underlying el = some (.int .u8))
 (hs : Sim E st w) (hf : FrRel E N fr a) (hw : (step (.s2b m d) fr st).wp (ACall P) K) (hc : Cont E st w o a next K) : o.wp P a w next Q := by
 have r1 := okX_rel hx hf
 simp only [step] at hw
 split at hw
 case h_2 => exact hw.elim
 rename_i l e1
 rw [e1] at r1
 have r1 := r1.strv
 have hsz : (str l).size = l.length := by simp [str, ByteArray.size]
 have hge := grownCap_ge w l.length 0 el
 have hcs : ((str l).data.map (fun b => Value.int .u8 b.toNat) ++ Array.replicate (grownCap w l.length 0 el - l.length) (Value.int .u8 0)).toList = l.map (fun c => Value.int .u8 c.toNat) ++ List.replicate (grownCap w l.length 0 el - l.length) (Value.int .u8 0) := by
  simp [str]
 have hsize : ((str l).data.map (fun b => Value.int .u8 b.toNat) ++ Array.replicate (grownCap w l.length 0 el - l.length) (Value.int .u8 0)).size = grownCap w l.length 0 el * 1 := by
  simp [str]; omega
 generalize hcells : ((str l).data.map (fun b => Value.int .u8 b.toNat) ++ Array.replicate (grownCap w l.length 0 el - l.length) (Value.int .u8 0)) = cells at hcs hsize
 obtain ⟨v, st', E', hk, s1, s2, hrel⟩ := newSlice_ok (w' := (w.drew.alloc (.cells cells el)).freeze ⟨w.heap.size, cells.size, none⟩ 1) hw hs (fz := (cells.size, cells.size + 1)) (.inr ⟨Nat.le_refl _, rfl⟩) freeze_push ⟨rfl, rfl, rfl⟩ (byteCells_sz l) (cap := grownCap w l.length 0 el) hsize (by rw [byteCells_len]; exact hge)
  (by rw [hcs]; exact byteCells_rel l _)
 rw [byteCells_len] at hrel
 refine wp_val (x := .slice (some ⟨w.heap.size, 0, none⟩) l.length (grownCap w l.length 0 el)) ?_ (hc _ _ E' _ _ hk s1 s2 hrel)
 have hm := run_markStringish (P := P) (w := w.drew.alloc (.cells cells el)) (b := w.heap.size) (off := 0) (c := cells) (t := el) (fz := (0, 0)) (by rw [alloc_heap]; simp)
 simp only [execOp, ho, r1, convert, Sem.run_bind, run_underlying hus, run_underlying hu, run_underlying he, Result.andThen_ok, Conv.stringToBytes, hsz]
 simp [newRow, Question.forced]
 simp only [grownCap] at hcells
 simp only [grownCap]
 have : Result.andThen ((markStringish ⟨w.heap.size, 0, none⟩).run P (w.drew.alloc (.cells cells el))) (fun _ w' => Result.ok () w') = .ok () ((w.drew.alloc (.cells cells el)).freeze ⟨w.heap.size, cells.size, none⟩ 1) := by rw [hm]; rfl
 simp [hcells, hm]
theorem step_mkb {t el : TypeId} {x : Operand} {d : Opd} (ho : o.op = .convert t t x) (hx : okX x d = true) (hu : P.underlying t = some (.slice el)) (he : P.underlying el = some (.int .u8))
 (hs : Sim E st w) (hf : FrRel E N fr a) (hw : (step (.mkb d) fr st).wp (ACall P) K) (hc : Cont E st w o a next K) : o.wp P a w next Q := by
 have r1 := okX_rel hx hf
 have fin : ∀ {k : Key} {ob : Obj} {ad : Addr} {len cap : Nat} {v : V} {c : Array Value} {ty : TypeId} {fz : Nat × Nat}, st.get k = some ob → w.heap[(E.μ k).blk]? = some (.cells c ty fz) → ad.block = (E.μ k).blk →
  (∀ w' : World, w'.heap[(E.μ k).blk]? = some (.cells c ty (if fz.1 == fz.2 then (c.size, c.size + 1) else (min fz.1 c.size, max fz.2 (c.size + 1)))) → Holds (E.at k) w' (E.μ k) ob) →
  a.eval x = .slice (some ad) len cap → Rel E v (.slice (some ad) len cap) → K (v, st) → o.wp P a w next Q := by
  intro k ob ad len cap v c ty fz hob hb had hh hv hr hk
  obtain ⟨s1, s2⟩ := hs.set (w' := w.freeze ⟨(E.μ k).blk, c.size, none⟩ 1) hob ob (by simp [World.freeze]) (fun b hne => freeze_other hne) rfl rfl rfl (fun j x hx => by
   have := hs.imm _ _ _ hx
   simp only [cellIn, freeze_heap hb]
   simpa [cellIn, hb] using this) (hh _ (freeze_heap hb))
  rw [St.set_self hob] at s1 s2
  refine wp_val (x := .slice (some ad) len cap) ?_ (hc _ _ E _ _ hk s1 s2 hr)
  obtain ⟨b, off, sp⟩ := ad
  simp only at had
  subst had
  simp [execOp, ho, hv, convert, run_underlying hu, run_underlying he, markStringish, shape, freeze, Sem.run, World.shape?, hb]
 simp only [step] at hw
 split at hw
 · rename_i k sz es e1
   rw [e1] at r1
   obtain ⟨ob, hob, hw⟩ := hw
   dsimp only at hw
   split at hw
   case h_2 => exact hw.elim
   generalize hv : a.eval x = y at r1
   cases r1 with
   | deep hd => cases hd
   | tsl _ _ _ ad cap hk hd hbk hh =>
     obtain ⟨c, ty, fz, q1, q2, q3, q4, q5⟩ := hs.obj k _ hob
     exact fin hob q1 hbk.1 (fun w' hw' => ⟨c, ty, _, hw', q2.mark, q3, q4, fun j v hj => by simp at hj⟩) hv (.tsl _ _ _ _ _ hk hd hbk hh) hw
 · rename_i k sz off len e1
   rw [e1] at r1
   obtain ⟨ob, hob, hw⟩ := hw
   dsimp only at hw
   split at hw
   case h_2 => exact hw.elim
   split at hw
   case isFalse => exact hw.elim
   rename_i hz1
   subst hz1
   generalize hv : a.eval x = y at r1
   cases r1 with
   | deep hd => cases hd
   | ms _ _ _ _ ad cap hk hcc hh hbk ha =>
     obtain ⟨hl, c, ty, fz, q1, q2, q3, q4, q5⟩ := hs.obj k _ hob
     exact fin hob q1 hbk (fun w' hw' => ⟨hl, c, ty, _, hw', q2.mark, q3, q4, q5⟩) hv (.ms _ _ _ _ _ _ hk hcc hh hbk ha) hw
 · exact hw.elim
theorem bytesOf_spec : ∀ {es : List (List V)} {y : List UInt8}, bytesOf es = some y → ∃ ns : List Int, es = ns.map (fun n => [V.i .u8 n]) ∧ y = ns.map fun n => UInt8.ofNat n.toNat
 | [], y, h => by simp only [bytesOf, Option.some.injEq] at h; subst h; exact ⟨[], rfl, rfl⟩
 | e :: r, y, h => by
   unfold bytesOf at h
   split at h
   · cases ‹_ = []›
   · rename_i n r' heq
     cases heq
     split at h
     · rename_i x hx
       simp only [Option.some.injEq] at h
       subst h
       obtain ⟨ns, h1, h2⟩ := bytesOf_spec hx
       exact ⟨n :: ns, by simp [h1], by simp [h2]⟩
     · cases h
   · cases h
theorem foldl_push : ∀ (ns : List Int) (s : ByteArray), ns.foldl (fun (r : ByteArray) n => r.push (UInt8.ofNat n.toNat)) s = ⟨s.data ++ (ns.map fun n => UInt8.ofNat n.toNat).toArray⟩
 | [], s => by simp
 | n :: r, s => by
   rw [List.foldl_cons, foldl_push r]
   cases s with
   | mk d =>
   apply ByteArray.ext
   apply Array.ext'
   simp [ByteArray.push]
theorem step_b2s {t t' el : TypeId} {x : Operand} {d : Opd} (ho : o.op = .convert t t' x) (hx : okX x d = true) (hu : P.underlying t = some (.slice el)) (he : P.underlying el = some (.int .u8)) (hus : P.underlying t' = some .string)
 (hs : Sim E st w) (hf : FrRel E N fr a) (hw : (step (.b2s d) fr st).wp (ACall P) K) (hc : Cont E st w o a next K) : o.wp P a w next Q := by
 have r1 := okX_rel hx hf
 simp only [step] at hw
 obtain ⟨es, xs, ⟨y, hy, hk⟩, hsh⟩ := elems_ok (P := P) hs r1 hw
 obtain ⟨ns, rfl, rfl⟩ := bytesOf_spec hy
 have hxs : xs = ns.map (Value.int .u8) := by
  apply List.ext_getElem?
  intro j
  have hxl := hsh.xlen
  simp only [List.length_map, Nat.mul_one] at hxl
  by_cases hj : j < ns.length
  · have hfl : (ns.map fun n => [V.i .u8 n]).flatten = ns.map (V.i .u8) := by
     clear hy hk hsh hw hxl hj
     induction ns with
     | nil => rfl
     | cons n r ih => simp [ih]
    obtain ⟨z, hz, hrz, _⟩ := hsh.rel j (.i .u8 ns[j]) (by rw [hfl]; simp [hj])
    rw [hz, hrz.int]
    simp [hj]
  · rw [List.getElem?_eq_none (by omega), List.getElem?_eq_none (by simp; omega)]
 subst hxs
 have hlen := hsh.len w
 have hfc := hsh.first w rfl ns.length (by simp)
 simp only [Nat.mul_one] at hfc
 rw [List.take_of_length_le (by simp)] at hfc
 have hstr : ns.foldl (fun (r : ByteArray) n => r.push (UInt8.ofNat n.toNat)) ByteArray.empty = str (ns.map fun n => UInt8.ofNat n.toNat) := by
  rw [foldl_push]; simp [str]
 refine wp_val (x := .string (str (ns.map fun n => UInt8.ofNat n.toNat))) ?_ (hc.same hs hk (.deep (.s _)))
 simp only [List.length_map] at hlen
 cases hv : a.eval x with
 | slice p len cap =>
   rw [hv] at hlen hfc
   have hl : len = ns.length := by simpa [Builtin.lenOf] using hlen
   subst hl
   cases p with
   | none =>
     simp [Builtin.firstCells] at hfc
     have h0 : ns = [] := by
      cases ns with
      | nil => rfl
      | cons n r => simp at hfc
     subst h0
     simp [execOp, ho, hv, convert, run_underlying hu, run_underlying he, run_underlying hus, Conv.bytesToString]
     rfl
   | some ad =>
     simp [Builtin.firstCells] at hfc
     have hb := run_bytesToString (P := P) w ad ns.length cap ns (by simpa using hfc)
     rw [hstr] at hb
     simp [execOp, ho, hv, convert, run_underlying hu, run_underlying he, run_underlying hus, hb]
 | string s =>
   rw [hv] at r1 hlen hfc
   have hsn : s.size = ns.length := by simpa [Builtin.lenOf] using hlen
   simp only [Builtin.firstCells, Sem.run_pure, Result.ok.injEq, and_true] at hfc
   have : s = str (ns.map fun n => UInt8.ofNat n.toNat) := by
    have h2 := congrArg Array.toList hfc
    simp only [Array.toList_map, ByteArray.data_extract] at h2
    cases s with
    | mk da =>
    have h3 : (da.extract 0 ns.length) = da := by
     have : da.size = ns.length := hsn
     rw [← this]; simp
    simp only [h3] at h2
    apply ByteArray.ext
    apply Array.ext'
    simp only [str]
    apply List.ext_getElem?
    intro j
    have h4 := congrArg (fun l => l[j]?) h2
    simp only [List.getElem?_map] at h4
    rw [List.getElem?_map]
    cases h5 : da.toList[j]? with
    | none =>
      rw [h5] at h4
      cases h6 : ns[j]? with
      | none => rfl
      | some n => rw [h6] at h4; cases h4
    | some b =>
      rw [h5] at h4
      cases h6 : ns[j]? with
      | none => rw [h6] at h4; cases h4
      | some n =>
        rw [h6] at h4
        simp only [Option.map_some, Option.some.injEq, Value.int.injEq, true_and] at h4
        rw [← h4]
        simp
   subst this
   simp [execOp, ho, hv, convert, run_underlying hu, run_underlying hus]
 | _ => rw [hv] at hlen; simp [Builtin.lenOf, stuck] at hlen
end
end Go.Eng
/-
Each operation of the model does what the abstract step says (part ten: lengths, slicing, elements' places, copy, clear, min, max, nil).
-/
namespace Go.Eng
open Go
section
variable {P : Program} {o : Oper} {a : Act} {E : Env} {N : Nat} {st : St} {w : World} {fr : Fr} {next : Act → World → Prop} {Q : Exit → Act → World → Prop} {K : R → Prop}
theorem Rel.nilsv {y : Value} (h : Rel E .nils y) : y = .slice none 0 0 := by cases h with | deep h => cases h; rfl
theorem Rel.slv {tok : Option Key} {sz : Nat} {es : List (List V)} {y : Value} (h : Rel E (.sl tok sz es) y) : ∃ p cap, y = .slice p es.length cap ∧ es.length ≤ cap ∧ ((es = [] ∧ cap = 0 ∧ tok = none) ∨
 ∃ (blk off : Nat) (val : Nat → Value), p = some ⟨blk, off, none⟩ ∧ (∀ e ∈ es, e.length = sz) ∧ (∀ j d, es.flatten[j]? = some d → E.I blk (off + j) = some (val j)) ∧ (∀ j d, es.flatten[j]? = some d → RelD E.I d (val j)) ∧
  (∀ k, tok = some k → E.has k ∧ blk = (E.μ k).blk ∧ (cap = es.length ∨ (off + es.length * sz = (E.μ k).base ∧ off + cap * sz = (E.μ k).fin)))) := by
 cases h with
 | deep hd =>
   cases hd with
   | slNil => exact ⟨none, 0, rfl, Nat.le_refl _, .inl ⟨rfl, rfl, rfl⟩⟩
   | slE _ a hs => exact ⟨some a, 0, rfl, Nat.le_refl _, .inl ⟨rfl, rfl, rfl⟩⟩
   | sl _ _ blk off cap val hc hl hv hr => exact ⟨_, _, rfl, hc, .inr ⟨blk, off, val, rfl, hl, hv, hr, fun k hk => by cases hk⟩⟩
 | tsl k _ _ ad cap hk hd hb hs =>
   cases hd with
   | slE _ _ hn => exact absurd hb.2 hn
   | sl _ _ blk off _ val hc hl hv hr =>
     exact ⟨_, _, rfl, hc, .inr ⟨blk, off, val, rfl, hl, hv, hr, fun k' hk' => by cases hk'; exact ⟨hk, hb.1, hs⟩⟩⟩
/-! Lengths. -/
theorem exec_len {x : Operand} {ts : Array TypeId} {v : Value} (ho : o.op = .call { callee := .builtin .len, args := #[x], argTypes := ts })
 (h : (Builtin.len_ ts o.type #[a.eval x]).run P w = .ok v w) : (execOp a.eval o).run P w = .ok (.value v) w := by
 simp [execOp, ho, resolve, invoke, builtin, h, Result.andThen]
theorem step_lenS {x : Operand} {d : Opd} {ts : Array TypeId} {t : TypeId} (ho : o.op = .call { callee := .builtin .len, args := #[x], argTypes := ts }) (ht : ts[0]? = some t) (hu : P.underlying t = some .string) (hx : okX x d = true)
 (hs : Sim E st w) (hf : FrRel E N fr a) (hw : (step (.lenS d) fr st).wp (ACall P) K) (hc : Cont E st w o a next K) : o.wp P a w next Q := by
 have r1 := okX_rel hx hf
 simp only [step] at hw
 split at hw
 case h_2 => exact hw.elim
 rename_i l e1
 rw [e1] at r1
 have r1 := r1.strv
 have hsz : (str l).size = l.length := by simp [str, ByteArray.size]
 exact wp_val (x := goInt l.length) (exec_len ho (by simp [Builtin.len_, ht, r1, run_underlying hu, hsz])) (hc.same hs hw (.deep (.i _ _)))
theorem step_lenL {x : Operand} {d : Opd} {ts : Array TypeId} {t el : TypeId} (ho : o.op = .call { callee := .builtin .len, args := #[x], argTypes := ts }) (ht : ts[0]? = some t) (hu : P.underlying t = some (.slice el)) (hx : okX x d = true)
 (hs : Sim E st w) (hf : FrRel E N fr a) (hw : (step (.lenL d) fr st).wp (ACall P) K) (hc : Cont E st w o a next K) : o.wp P a w next Q := by
 have r1 := okX_rel hx hf
 have hrun : ∀ p (n c : Nat), a.eval x = .slice p n c → (execOp a.eval o).run P w = .ok (.value (goInt n)) w := fun p n c h => exec_len ho (by simp [Builtin.len_, ht, h, run_underlying hu])
 simp only [step] at hw
 split at hw
 · rename_i e1
   rw [e1] at r1
   exact wp_val (hrun _ _ _ r1.nilsv) (hc.same hs hw (.deep (.i _ _)))
 · rename_i tok sz es e1
   rw [e1] at r1
   obtain ⟨p, cap, hv, _⟩ := r1.slv
   exact wp_val (hrun _ _ _ hv) (hc.same hs hw (.deep (.i _ _)))
 · rename_i k sz off n e1
   rw [e1] at r1
   generalize hv : a.eval x = y at r1
   cases r1 with
   | deep hd => cases hd
   | ms => exact wp_val (hrun _ _ _ hv) (hc.same hs hw (.deep (.i _ _)))
 · exact hw.elim
theorem step_lenA {x : Operand} {n : Nat} {ts : Array TypeId} {t el : TypeId} (ho : o.op = .call { callee := .builtin .len, args := #[x], argTypes := ts }) (ht : ts[0]? = some t) (hu : P.underlying t = some (.array n el))
 (hs : Sim E st w) (hw : (step (.lenA n) fr st).wp (ACall P) K) (hc : Cont E st w o a next K) : o.wp P a w next Q :=
 wp_val (x := goInt n) (exec_len ho (by simp [Builtin.len_, ht, run_underlying hu])) (hc.same hs hw (.deep (.i _ _)))
theorem step_lenM {x : Operand} {d : Opd} {ts : Array TypeId} {t kt el : TypeId} (ho : o.op = .call { callee := .builtin .len, args := #[x], argTypes := ts }) (ht : ts[0]? = some t) (hu : P.underlying t = some (.map kt el)) (hx : okX x d = true)
 (hs : Sim E st w) (hf : FrRel E N fr a) (hw : (step (.lenM d) fr st).wp (ACall P) K) (hc : Cont E st w o a next K) : o.wp P a w next Q := by
 have r1 := okX_rel hx hf
 simp only [step] at hw
 split at hw
 · rename_i e1
   rw [e1] at r1
   generalize hv : a.eval x = y at r1
   cases r1 with
   | deep hd => cases hd
   | nilm => exact wp_val (x := goInt (0 : Nat)) (exec_len ho (by simp [Builtin.len_, ht, hv, run_underlying hu])) (hc.same hs hw (.deep (.i _ _)))
 · rename_i k e1
   rw [e1] at r1
   obtain ⟨ob, hob, hw⟩ := hw
   dsimp only at hw
   split at hw
   case h_2 => exact hw.elim
   rename_i kd es
   generalize hv : a.eval x = y at r1
   cases r1 with
   | deep hd => cases hd
   | m _ hk =>
     obtain ⟨ents, clock, q1, q2, _⟩ := hs.obj k _ hob
     refine wp_val (x := goInt es.length) (exec_len ho ?_) (hc.same hs hw (.deep (.i _ _)))
     simp [Builtin.len_, ht, hv, run_underlying hu, getObj, Sem.run, q1, q2]
 · exact hw.elim
/-! Slicing. -/
theorem boundOr_spec {lo : Option Operand} {d : Option Opd} (hl : okXo lo d = true) (hf : FrRel E N fr a) {n l : Int} (h : boundOr (Opd.evo fr d) n = some l) :
 (lo.map a.eval = none ∧ Opd.evo fr d = none ∧ l = n) ∨ ∃ k, lo.map a.eval = some (.int k l) := by
 rcases okXo_rel hf hl with ⟨h1, h2⟩ | ⟨y, v, h1, h2, h3⟩
 · rw [h2] at h
   simp only [boundOr, Option.some.injEq] at h
   exact .inl ⟨by rw [h1]; rfl, h2, h.symm⟩
 · rw [h2] at h
   simp only [boundOr] at h
   cases v <;> simp only [intOf1, Option.some.injEq, reduceCtorEq] at h
   subst h
   have h3 := h3.int
   subst h3
   exact .inr ⟨_, h1⟩
theorem run_bounds (isSlice : Bool) (len cap : Nat) {lo hi : Option Value} {l h : Int} (hh : (hi = none ∧ h = len) ∨ ∃ k, hi = some (.int k h)) (hl : (lo = none ∧ l = 0) ∨ ∃ k, lo = some (.int k l))
 (h0 : 0 ≤ l) (h1 : l ≤ h) (h2 : h ≤ cap) : (Instr.sliceBounds isSlice len cap lo hi none).run P w = .ok (l.toNat, h.toNat, cap) w := by
 have hc1 : l ≤ (h.toNat : Int) := by omega
 have h00 : 0 ≤ h := by omega
 have hmx : max h 0 = h := by omega
 have hnl : ¬ h < l := by omega
 rcases hh with ⟨rfl, rfl⟩ | ⟨k, rfl⟩ <;> rcases hl with ⟨rfl, rfl⟩ | ⟨k', rfl⟩ <;> simp [Instr.sliceBounds, run_sliceBound, h0, h1, h2, h00, hmx]
theorem step_slstr {t : TypeId} {x : Operand} {lo hi : Option Operand} {d : Opd} {l h : Option Opd} (ho : o.op = .slice t x lo hi none) (hu : P.underlying t = some .string) (hx : okX x d = true) (hlo : okXo lo l = true) (hhi : okXo hi h = true)
 (hs : Sim E st w) (hf : FrRel E N fr a) (hw : (step (.slstr d l h) fr st).wp (ACall P) K) (hc : Cont E st w o a next K) : o.wp P a w next Q := by
 have r1 := okX_rel hx hf
 simp only [step] at hw
 split at hw
 case h_2 => exact hw.elim
 rename_i y e1
 rw [e1] at r1
 have r1 := r1.strv
 unfold T.opt at hw
 split at hw
 case h_2 => exact hw.elim
 rename_i h' hh'
 split at hw
 case h_2 => exact hw.elim
 rename_i l' hl'
 obtain ⟨hck, hw⟩ := hw
 simp only [Bool.and_eq_true, decide_eq_true_eq] at hck
 obtain ⟨⟨c1, c2⟩, c3⟩ := hck
 have hsz : (str y).size = y.length := by simp [str, ByteArray.size]
 have b1 := boundOr_spec hhi hf hh'
 have b2 := boundOr_spec hlo hf hl'
 have hb := run_bounds (P := P) (w := w) false y.length y.length (lo := lo.map a.eval) (hi := hi.map a.eval) (l := l') (h := h') (b1.imp (fun q => ⟨q.1, q.2.2⟩) id) (b2.imp (fun q => ⟨q.1, q.2.2⟩) id) c1 c2 c3
 refine wp_val (x := .string (str ((y.take h'.toNat).drop l'.toNat))) ?_ (hc.same hs hw (.deep (.s _)))
 have he : (str y).extract l'.toNat h'.toNat = str ((y.take h'.toNat).drop l'.toNat) := by
  apply ByteArray.ext
  apply Array.ext'
  simp only [ByteArray.data_extract, str, Array.toList_extract]
  simp [List.drop_take]
 simp [execOp, ho, r1, Instr.sliceAt, Instr.slice, run_underlying hu, hsz, hb, he]
theorem step_slsl {t el : TypeId} {x : Operand} {lo hi : Option Operand} {d : Opd} {l h : Option Opd} {sz : Nat} (ho : o.op = .slice t x lo hi none) (hu : P.underlying t = some (.slice el)) (hz : (P.info? el).map (·.size) = some sz) (hszp : 0 < sz)
 (hx : okX x d = true) (hlo : okXo lo l = true) (hhi : okXo hi h = true)
 (hs : Sim E st w) (hf : FrRel E N fr a) (hw : (step (.slsl sz d l h none) fr st).wp (ACall P) K) (hc : Cont E st w o a next K) : o.wp P a w next Q := by
 have r1 := okX_rel hx hf
 cases hq : P.info? el with
 | none => simp [hq] at hz
 | some i =>
 have hi2 : i.size = sz := by simpa [hq] using hz
 have hrun : ∀ {p : Option Addr} {len cap : Nat} {l' h' : Int}, a.eval x = .slice p len cap → (Instr.sliceBounds true len cap (lo.map a.eval) (hi.map a.eval) none).run P w = .ok (l'.toNat, h'.toNat, cap) w →
  (execOp a.eval o).run P w = .ok (.value (.slice (if cap = l'.toNat then p else p.map (·.add (l'.toNat * sz))) (h'.toNat - l'.toNat) (cap - l'.toNat))) w := by
  intro p len cap l' h' hv hb
  simp [execOp, ho, hv, Instr.sliceAt, Instr.slice, run_underlying hu, hb, sizeOf, typeInfo, hq, hi2]
 simp only [step] at hw
 split at hw
 · rename_i e1
   rw [e1] at r1
   have r1 := r1.nilsv
   unfold T.opt at hw
   split at hw
   case h_2 => exact hw.elim
   rename_i h' hh'
   split at hw
   case h_2 => exact hw.elim
   rename_i l' hl'
   obtain ⟨hck, hw⟩ := hw
   simp only [Bool.and_eq_true, decide_eq_true_eq] at hck
   obtain ⟨rfl, rfl⟩ := hck
   have b1 := boundOr_spec hhi hf hh'
   have b2 := boundOr_spec hlo hf hl'
   have hb := run_bounds (P := P) (w := w) true 0 0 (lo := lo.map a.eval) (hi := hi.map a.eval) (l := 0) (h := 0) (b1.imp (fun q => ⟨q.1, q.2.2⟩) id) (b2.imp (fun q => ⟨q.1, q.2.2⟩) id) (by omega) (by omega) (by omega)
   exact wp_val (hrun r1 hb) (hc.same hs hw (by simpa using Rel.deep .nils))
 · rename_i tok sz' es e1
   rw [e1] at r1
   split at hw
   case isFalse => exact hw.elim
   rename_i hz'
   subst hz'
   obtain ⟨p, cap, hv, hcc, hp⟩ := r1.slv
   split at hw
   · -- without an upper bound
     rename_i hnone
     unfold T.opt at hw
     split at hw
     case h_2 => exact hw.elim
     rename_i l' hl'
     obtain ⟨hck, hw⟩ := hw
     simp only [Bool.and_eq_true, decide_eq_true_eq] at hck
     obtain ⟨c1, c2⟩ := hck
     have b2 := boundOr_spec hlo hf hl'
     have hnn : hi.map a.eval = none := by
      rcases okXo_rel hf hhi with ⟨h1, _⟩ | ⟨_, _, _, h2, _⟩
      · rw [h1]; rfl
      · rw [hnone] at h2; cases h2
     have hb := run_bounds (P := P) (w := w) true es.length cap (lo := lo.map a.eval) (hi := hi.map a.eval) (l := l') (h := (es.length : Int)) (.inl ⟨hnn, rfl⟩) (b2.imp (fun q => ⟨q.1, q.2.2⟩) id) c1 c2 (by omega)
     have hln : l'.toNat ≤ es.length := by omega
     have hlen : (es.length : Int).toNat - l'.toNat = (es.drop l'.toNat).length := by simp
     refine wp_val (hrun hv hb) (hc.same hs hw ?_)
     rw [hlen]
     rcases hp with ⟨rfl, rfl, rfl⟩ | ⟨blk, off, val, rfl, hl, hvv, hrr, htk⟩
     · have : l'.toNat = 0 := by simpa using hln
       rw [this]
       exact .deep (.slEmpty _ _)
     · have hl2 : ∀ e ∈ es.drop l'.toNat, e.length = sz' := fun e he => hl e (List.mem_of_mem_drop he)
       by_cases hcl : cap = l'.toNat
       · have hnil : es.drop l'.toNat = [] := List.drop_eq_nil_of_le (by omega)
         rw [if_pos hcl, hcl, Nat.sub_self, hnil]
         have hd : RelD E.I (.sl none sz' []) (.slice (some ⟨blk, off, none⟩) 0 0) := .sl sz' [] blk off 0 (fun _ => default) (Nat.le_refl _) (fun e he => by cases he) (fun j d hj => by simp at hj) (fun j d hj => by simp at hj)
         cases tok with
         | none => exact .deep hd
         | some k =>
           obtain ⟨k1, k2, k3⟩ := htk k rfl
           exact .tsl _ _ _ _ _ k1 hd ⟨k2, rfl⟩ (.inl rfl)
       · rw [if_neg hcl]
         have hfd := flat_drop hl l'.toNat
         have hd : RelD E.I (.sl none sz' (es.drop l'.toNat)) (.slice (some ⟨blk, off + l'.toNat * sz', none⟩) (es.drop l'.toNat).length (cap - l'.toNat)) := by
          refine .sl sz' _ blk (off + l'.toNat * sz') _ (fun j => val (l'.toNat * sz' + j)) (by simp; omega) hl2 (fun j d hj => ?_) (fun j d hj => ?_)
          · rw [hfd, List.getElem?_drop] at hj
            rw [Nat.add_assoc]; exact hvv _ d hj
          · rw [hfd, List.getElem?_drop] at hj
            exact hrr _ d hj
         simp only [Option.map_some, Addr.add_lit]
         cases tok with
         | none => exact .deep hd
         | some k =>
           obtain ⟨k1, k2, k3⟩ := htk k rfl
           refine .tsl _ _ _ _ _ k1 hd ⟨k2, rfl⟩ ?_
           rw [List.length_drop]
           rcases k3 with k3 | ⟨k3, k4⟩
           · exact .inl (by omega)
           · refine .inr ⟨?_, ?_⟩
             · simp only [Nat.sub_mul]
               have : l'.toNat * sz' ≤ es.length * sz' := Nat.mul_le_mul_right _ hln
               omega
             · simp only [Nat.sub_mul]
               have : l'.toNat * sz' ≤ cap * sz' := Nat.mul_le_mul_right _ (by omega)
               omega
   · rename_i v hsome
     unfold T.opt at hw
     split at hw
     case h_2 => exact hw.elim
     rename_i h' hh'
     split at hw
     case h_2 => exact hw.elim
     rename_i l' hl'
     obtain ⟨hck, hw⟩ := hw
     simp only [Bool.and_eq_true, decide_eq_true_eq] at hck
     obtain ⟨⟨c1, c2⟩, c3⟩ := hck
     have b1 := boundOr_spec (n := 0) (l := h') hhi hf (by rw [hsome]; exact hh')
     have b1 : ∃ k, hi.map a.eval = some (.int k h') := by
      rcases b1 with ⟨_, q, _⟩ | q
      · rw [hsome] at q; cases q
      · exact q
     have b2 := boundOr_spec hlo hf hl'
     have hb := run_bounds (P := P) (w := w) true es.length cap (lo := lo.map a.eval) (hi := hi.map a.eval) (l := l') (h := h') (.inr b1) (b2.imp (fun q => ⟨q.1, q.2.2⟩) id) c1 c2 (by omega)
     have hlen : h'.toNat - l'.toNat = ((es.take h'.toNat).drop l'.toNat).length := by simp; omega
     refine wp_val (hrun hv hb) (hc.same hs hw ?_)
     rw [hlen]
     rcases hp with ⟨rfl, rfl, rfl⟩ | ⟨blk, off, val, rfl, hl, hvv, hrr, htk⟩
     · simp only [List.take_nil, List.drop_nil, List.length_nil, Nat.zero_sub]
       exact .deep (.slEmpty _ _)
     · have hlt : ∀ e ∈ es.take h'.toNat, e.length = sz' := fun e he => hl e (List.mem_of_mem_take he)
       have hl2 : ∀ e ∈ (es.take h'.toNat).drop l'.toNat, e.length = sz' := fun e he => hlt e (List.mem_of_mem_drop he)
       by_cases hcl : cap = l'.toNat
       · have hnil : (es.take h'.toNat).drop l'.toNat = [] := List.drop_eq_nil_of_le (by simp; omega)
         rw [if_pos hcl, hcl, Nat.sub_self, hnil]
         exact .deep (.sl sz' [] blk off 0 (fun _ => default) (Nat.le_refl _) (fun e he => by cases he) (fun j d hj => by simp at hj) (fun j d hj => by simp at hj))
       · rw [if_neg hcl]
         have hfd : ∀ j d, ((es.take h'.toNat).drop l'.toNat).flatten[j]? = some d → es.flatten[l'.toNat * sz' + j]? = some d := by
          intro j d hj
          rw [flat_drop hlt, flat_take hl, List.getElem?_drop, List.getElem?_take] at hj
          split at hj
          · exact hj
          · cases hj
         simp only [Option.map_some, Addr.add_lit]
         refine .deep (.sl sz' _ blk (off + l'.toNat * sz') _ (fun j => val (l'.toNat * sz' + j)) (by simp; omega) hl2 (fun j d hj => ?_) (fun j d hj => ?_))
         · rw [Nat.add_assoc]; exact hvv _ d (hfd j d hj)
         · exact hrr _ d (hfd j d hj)
 · rename_i k sz' off len e1
   rw [e1] at r1
   split at hw
   case isFalse => exact hw.elim
   rename_i hz'
   subst hz'
   unfold T.opt at hw
   split at hw
   case h_2 => exact hw.elim
   rename_i h' hh'
   split at hw
   case h_2 => exact hw.elim
   rename_i l' hl'
   obtain ⟨ob, hob, hw⟩ := hw
   dsimp only at hw
   split at hw
   case h_2 => exact hw.elim
   rename_i sz'' es
   split at hw
   case isFalse => exact hw.elim
   rename_i hz'
   subst hz'
   obtain ⟨hck, hw⟩ := hw
   simp only [Bool.and_eq_true, decide_eq_true_eq] at hck
   obtain ⟨⟨c1, c2⟩, c3⟩ := hck
   have b1 := boundOr_spec hhi hf hh'
   have b2 := boundOr_spec hlo hf hl'
   generalize hv : a.eval x = y at r1
   cases r1 with
   | deep hd => cases hd
   | ms _ _ _ _ ad cap hk hcc hh hbk ha =>
     obtain ⟨hl, cells, ty, fz, q1, q2, q3, q4, q5⟩ := hs.obj k _ hob
     have hfe := flat_len hl
     have hcl : es.length ≤ off + cap := by
      have : es.length * sz'' ≤ (off + cap) * sz'' := by omega
      exact Nat.le_of_mul_le_mul_right this hszp
     have hb := run_bounds (P := P) (w := w) true len cap (lo := lo.map a.eval) (hi := hi.map a.eval) (l := l') (h := h') (b1.imp (fun q => ⟨q.1, q.2.2⟩) id) (b2.imp (fun q => ⟨q.1, q.2.2⟩) id) c1 c2 (by omega)
     refine wp_val (hrun hv hb) (hc.same hs hw ?_)
     have e0 : (if cap = l'.toNat then some ad else Option.map (fun x : Addr => x.add (l'.toNat * sz'')) (some ad)) = some (if cap = l'.toNat then ad else ad.add (l'.toNat * sz'')) := by split <;> rfl
     rw [e0]
     refine .ms _ _ _ _ _ _ hk (by omega) ?_ ?_ ?_
     · rw [← hh]
       congr 2
       omega
     · split
       · exact hbk
       · simp only [Addr.add]
         split <;> exact hbk
     · by_cases hcl' : cap = l'.toNat
       · exact .inl (by omega)
       · rw [if_neg hcl']
         refine .inr ?_
         rcases ha with h | h
         · omega
         · rw [h, Addr.add_lit, Nat.add_mul]
           congr 1; omega
 · exact hw.elim
/-! Elements' places. -/
theorem step_iasl {t el : TypeId} {x y : Operand} {d c : Opd} {sz : Nat} (ho : o.op = .indexAddr t x y) (hx : okX x d = true) (hy : okX y c = true)
 (hu : P.underlying t = some (.slice el)) (hz : (P.info? el).map (·.size) = some sz)
 (hs : Sim E st w) (hf : FrRel E N fr a) (hw : (step (.iasl sz d c) fr st).wp (ACall P) K) (hc : Cont E st w o a next K) : o.wp P a w next Q := by
 have r1 := okX_rel hx hf
 have r2 := okX_rel hy hf
 cases hq : P.info? el with
 | none => simp [hq] at hz
 | some i =>
 have hi : i.size = sz := by simpa [hq] using hz
 simp only [step] at hw
 split at hw
 case h_2 => exact hw.elim
 rename_i kd n e2
 rw [e2] at r2
 have r2 := r2.int
 have hrun : ∀ {p : Addr} {len cap : Nat}, a.eval x = .slice (some p) len cap → 0 ≤ n → n < len → (execOp a.eval o).run P w = .ok (.value (.pointer (some (p.add (n.toNat * sz))))) w := by
  intro p len cap hv h0 h1
  simp [execOp, ho, hv, r2, Instr.indexAt, asIntOf, run_underlying hu, sizeOf, typeInfo, hq, hi, h0, h1]
 split at hw
 · rename_i tok sz' es e1
   rw [e1] at r1
   split at hw
   case isFalse => exact hw.elim
   rename_i hz'
   subst hz'
   obtain ⟨hix, e, he, hw⟩ := hw
   rw [idxOk_iff] at hix
   have hlt : n.toNat < es.length := (List.getElem?_eq_some_iff.1 he).1
   obtain ⟨p, cap, hv, hcc, hp⟩ := r1.slv
   rcases hp with ⟨rfl, rfl, rfl⟩ | ⟨blk, off, val, rfl, hl, hvv, hrr, htk⟩
   · simp at hlt
   · refine wp_val (hrun hv hix.1 hix.2) (hc.same hs hw ?_)
     rw [Addr.add_lit]
     have hel : e.length = sz' := hl e (List.mem_of_getElem? he)
     have hfg : ∀ j d, e[j]? = some d → es.flatten[n.toNat * sz' + j]? = some d := by
      intro j d hj
      have hj' : j < sz' := by
       have := (List.getElem?_eq_some_iff.1 hj).1
       omega
      rw [flat_get hl he hj']; exact hj
     exact .pc e 0 blk (off + n.toNat * sz') (fun j => val (n.toNat * sz' + j)) (fun j d hj => by rw [Nat.add_assoc]; exact hvv _ d (hfg j d hj)) (fun j d hj => hrr _ d (hfg j d hj))
 · rename_i k sz' off len e1
   rw [e1] at r1
   split at hw
   case isFalse => exact hw.elim
   rename_i hz'
   subst hz'
   obtain ⟨hix, hw⟩ := hw
   rw [idxOk_iff] at hix
   generalize hv : a.eval x = y at r1
   cases r1 with
   | deep hd => cases hd
   | ms _ _ _ _ ad cap hk hcc hh hbk ha =>
     have ha : ad = ⟨(E.μ k).blk, (E.μ k).base + off * sz', none⟩ := by
      rcases ha with h | h
      · omega
      · exact h
     subst ha
     refine wp_val (hrun hv hix.1 hix.2) (hc.same hs hw ?_)
     rw [Addr.add_lit]
     have := Rel.pa (E := E) k sz' (off + n.toNat) 0 hk
     rw [Nat.add_mul, Nat.add_zero, ← Nat.add_assoc] at this
     exact this
 · exact hw.elim
/-! Nil. -/
def nilOk (P : Program) (t : TypeId) (e : Opd) : Bool :=
 match P.underlying t, e with
 | some (.pointer _), .c .nilp => true
 | some (.slice _), .c .nils => true
 | some (.map _ _), .c .nilm => true
 | some (.func _ _ _), .c .nilf => true
 | _, _ => false
theorem ev_c (v : V) : Opd.ev fr (.c v) = v := rfl
theorem eqIn_ptr (d : Nat) {t el : TypeId} (hu : P.underlying t = some (.pointer el)) (p : Option Addr) (w : World) : (Op.equalIn (d + 1) t (.pointer p) (.pointer none)).run P w = .ok p.isNone w := by
 cases p <;> simp [Op.equalIn, run_underlying hu]
theorem eqIn_map (d : Nat) {t kt el : TypeId} (hu : P.underlying t = some (.map kt el)) (p : Option Nat) (w : World) : (Op.equalIn (d + 1) t (.map p) (.map none)).run P w = .ok p.isNone w := by
 cases p <;> simp [Op.equalIn, run_underlying hu]
theorem eqIn_slice (d : Nat) {t el : TypeId} (hu : P.underlying t = some (.slice el)) (p : Option Addr) (n c : Nat) (w : World) : (Op.equalIn (d + 1) t (.slice p n c) (.slice none 0 0)).run P w = .ok p.isNone w := by
 cases p <;> simp [Op.equalIn, run_underlying hu]
theorem eqIn_func (d : Nat) {t : TypeId} {x1 : Array TypeId} {x2 : Array TypeId} {x3 : Bool} (hu : P.underlying t = some (.func x1 x2 x3)) (x : Value) {b : Bool} (w : World) (hb : (match x with | .nilFunc => some true | .func _ _ _ => some false | _ => none) = some b) : (Op.equalIn (d + 1) t x .nilFunc).run P w = .ok b w := by
 cases x <;> simp at hb <;> subst hb <;> simp [Op.equalIn, run_underlying hu]
theorem run_eqnil {t : TypeId} {x y : Value} {neg b : Bool} {op : BinOp} (hop : op = if neg then .neq else .eql) (hnum : x matches .pointer _ | .slice _ _ _ | .map _ | .func _ _ _ | .nilFunc) (h : (Op.equal t x y).run P w = .ok b w) :
 (binOp op t x y).run P w = .ok (.bool (if neg then !b else b)) w := by
 subst hop
 cases neg <;> cases x <;> simp at hnum <;> simp [binOp, h]
theorem exec_eqn {op : BinOp} {t yt : TypeId} {x y : Operand} {neg b : Bool} (ho : o.op = .binOp op t x y yt) (hop : op = if neg then .neq else .eql) (hnum : a.eval x matches .pointer _ | .slice _ _ _ | .map _ | .func _ _ _ | .nilFunc)
 (hnum2 : a.eval x = .nilFunc → ∀ r, eqGuard op t x y .nilFunc r = pure ())
 (h : (Op.equal t (a.eval x) (a.eval y)).run P w = .ok b w) : (execOp a.eval o).run P w = .ok (.value (.bool (if neg then !b else b))) w := by
 have h1 := run_eqnil hop hnum h
 have hg : eqGuard op t x y (a.eval x) (a.eval y) = pure () := by
  cases hv : a.eval x <;> rw [hv] at hnum <;> simp at hnum
  · exact eqGuard_at_pointer _ _ _ _ _ _
  · exact eqGuard_at_slice _ _ _ _ _ _ _ _
  · exact eqGuard_at_map _ _ _ _ _ _
  · exact eqGuard_at_func _ _ _ _ _ _ _ _
  · exact hnum2 hv _
 exact exec_bin ho hg h1
theorem step_eqn {op : BinOp} {t yt : TypeId} {x y : Operand} {d e : Opd} {neg : Bool} (ho : o.op = .binOp op t x y yt) (hop : op = if neg then .neq else .eql) (hx : okX x d = true) (hy : okX y e = true) (hn : nilOk P t e = true)
 (hs : Sim E st w) (hf : FrRel E N fr a) (hw : (step (.eqn neg d e) fr st).wp (ACall P) K) (hc : Cont E st w o a next K) : o.wp P a w next Q := by
 have r1 := okX_rel hx hf
 have r2 := okX_rel hy hf
 have fin : ∀ b : Bool, (Op.equal t (a.eval x) (a.eval y)).run P w = .ok b w → (a.eval x matches .pointer _ | .slice _ _ _ | .map _ | .func _ _ _ | .nilFunc) → K (.b (if neg then !b else b), st) → o.wp P a w next Q := by
  intro b h hm hk
  exact wp_val (exec_eqn ho hop hm (fun _ r => by cases op <;> rfl) h) (hc.same hs hk (.deep (.b _)))
 have t1 : (if neg then !true else true) = !neg := by cases neg <;> rfl
 have t2 : (if neg then !false else false) = neg := by cases neg <;> rfl
 unfold nilOk at hn
 split at hn
 · rename_i el hu
   have hy2 : a.eval y = .pointer none := by
    generalize a.eval y = z at r2
    cases r2 with
    | deep hd => cases hd
    | nilp => rfl
   simp only [step, stepNil, ev_c] at hw
   split at hw
   · rename_i e1
     rw [e1] at r1
     generalize hv : a.eval x = z at r1
     cases r1 with
     | deep hd => cases hd
     | nilp => exact fin true (by rw [hv, hy2]; exact eqIn_ptr 9999 hu _ w) (by simp [hv]) (by rw [t1]; exact hw)
   · rename_i e1
     rw [e1] at r1
     generalize hv : a.eval x = z at r1
     cases r1 with
     | deep hd => cases hd
     | p => exact fin false (by rw [hv, hy2]; exact eqIn_ptr 9999 hu _ w) (by simp [hv]) (by rw [t2]; exact hw)
   · rename_i e1
     rw [e1] at r1
     generalize hv : a.eval x = z at r1
     cases r1 with
     | deep hd => cases hd
     | pa => exact fin false (by rw [hv, hy2]; exact eqIn_ptr 9999 hu _ w) (by simp [hv]) (by rw [t2]; exact hw)
   · exact hw.elim
 · rename_i el hu
   have hy2 : a.eval y = .slice none 0 0 := r2.nilsv
   have hsl : ∀ p n c, a.eval x = .slice p n c → (Op.equal t (a.eval x) (a.eval y)).run P w = .ok p.isNone w := by
    intro p n c h
    rw [h, hy2]
    exact eqIn_slice 9999 hu _ _ _ w
   simp only [step, stepNil, ev_c] at hw
   split at hw
   · rename_i e1
     rw [e1] at r1
     exact fin true (hsl _ _ _ r1.nilsv) (by simp [r1.nilsv]) (by rw [t1]; exact hw)
   · rename_i tok sz es e1
     rw [e1] at r1
     obtain ⟨p, cap, hv, hcc, hp⟩ := r1.slv
     have hm : a.eval x matches .pointer _ | .slice _ _ _ | .map _ | .func _ _ _ | .nilFunc := by simp [hv]
     split at hw
     · rename_i k
       rcases hp with ⟨_, _, h⟩ | ⟨blk, off, val, rfl, _⟩
       · cases h
       · exact fin false (hsl _ _ _ hv) hm (by rw [t2]; exact hw)
     · by_cases hem : es.isEmpty = true
       · have hw := hw.1 hem
         exact fin _ (hsl _ _ _ hv) hm (hw _)
       · have hw := hw.2 (by simpa using hem)
         rcases hp with ⟨h, _⟩ | ⟨blk, off, val, rfl, _⟩
         · subst h; simp at hem
         · exact fin false (hsl _ _ _ hv) hm (by rw [t2]; exact hw)
   · rename_i k sz off len e1
     rw [e1] at r1
     generalize hv : a.eval x = z at r1
     cases r1 with
     | deep hd => cases hd
     | ms => exact fin false (hsl _ _ _ hv) (by simp [hv]) (by rw [t2]; exact hw)
   · exact hw.elim
 · rename_i kt el hu
   have hy2 : a.eval y = .map none := by
    generalize a.eval y = z at r2
    cases r2 with
    | deep hd => cases hd
    | nilm => rfl
   simp only [step, stepNil, ev_c] at hw
   split at hw
   · rename_i e1
     rw [e1] at r1
     generalize hv : a.eval x = z at r1
     cases r1 with
     | deep hd => cases hd
     | nilm => exact fin true (by rw [hv, hy2]; exact eqIn_map 9999 hu _ w) (by simp [hv]) (by rw [t1]; exact hw)
   · rename_i e1
     rw [e1] at r1
     generalize hv : a.eval x = z at r1
     cases r1 with
     | deep hd => cases hd
     | m => exact fin false (by rw [hv, hy2]; exact eqIn_map 9999 hu _ w) (by simp [hv]) (by rw [t2]; exact hw)
   · exact hw.elim
 · rename_i x1 x2 x3 hu
   have hy2 : a.eval y = .nilFunc := by
    generalize a.eval y = z at r2
    cases r2 with
    | deep hd => cases hd
    | nilf => rfl
   simp only [step, stepNil, ev_c] at hw
   split at hw
   · rename_i e1
     rw [e1] at r1
     generalize hv : a.eval x = z at r1
     cases r1 with
     | deep hd => cases hd
     | nilf => exact fin true (by rw [hv, hy2]; exact eqIn_func 9999 hu _ w rfl) (by simp [hv]) (by rw [t1]; exact hw)
   · rename_i e1
     rw [e1] at r1
     generalize hv : a.eval x = z at r1
     cases r1 with
     | deep hd => cases hd
     | fn => exact fin false (by rw [hv, hy2]; exact eqIn_func 9999 hu _ w rfl) (by simp [hv]) (by rw [t2]; exact hw)
   · exact hw.elim
 · cases hn
end
end Go.Eng
/-
Each operation of the model does what the abstract step says (part eleven: copy, clear, min and max, maps, calls).
-/
namespace Go.Eng
open Go
section
variable {P : Program} {o : Oper} {a : Act} {E : Env} {N : Nat} {st : St} {w : World} {fr : Fr} {next : Act → World → Prop} {Q : Exit → Act → World → Prop} {K : R → Prop}
theorem InRow.take {cs : List V} {xs : List Value} (hr : InRow E cs xs) (n : Nat) : InRow E (cs.take n) (xs.take n) := by
 intro j v hj
 rw [List.getElem?_take] at hj ⊢
 split at hj
 · rename_i h
   rw [if_pos h]
   exact hr j v hj
 · cases hj
theorem undef_rel : Rel E (.tup []) (.tuple #[]) := .tup _ _ rfl (fun j v x hj => by simp at hj)
theorem Sim.over (hs : Sim E st w) {k : Key} {sz : Nat} {es ds : List (List V)} (hob : st.get k = some (.arr sz es)) {xs : List Value} {off : Nat} (hd : ∀ e ∈ ds, e.length = sz) (hin : off + ds.length ≤ es.length)
 (hxl : xs.length = ds.length * sz) (hr : InRow (E.ofG k.isG) ds.flatten xs) (h1 : ∀ x ∈ xs, x.oneCell' = true) :
 Sim E (st.set k (.arr sz (es.take off ++ ds ++ es.drop (off + ds.length)))) (w.setCells (E.μ k).blk ((E.μ k).base + off * sz) xs) ∧
 Ext E st w E (st.set k (.arr sz (es.take off ++ ds ++ es.drop (off + ds.length)))) (w.setCells (E.μ k).blk ((E.μ k).base + off * sz) xs) ∧
 w.there (E.μ k).blk ((E.μ k).base + off * sz) xs.length := by
 obtain ⟨hl, cells, ty, fz, r1, r2, r3, r4, r5⟩ := hs.obj k _ hob
 have hfe := flat_len hl
 have hfd := flat_len hd
 have hm1 : (off + ds.length) * sz ≤ es.length * sz := Nat.mul_le_mul_right _ hin
 rw [Nat.add_mul] at hm1
 have hset := set_els hl hd hin
 have hrow := RowOf.written r1 r2 r3 r4 r5 (off := off * sz) (vs := ds.flatten) (xs := xs) (by rw [Env.at_isG]; exact hr.relL (by rw [hxl, hfd])) h1 (by omega)
 rw [← hset] at hrow
 have hl2 : ∀ e ∈ es.take off ++ ds ++ es.drop (off + ds.length), e.length = sz := by
  intro e he
  rcases List.mem_append.1 he with h | h
  · rcases List.mem_append.1 h with h | h
    · exact hl e (List.mem_of_mem_take h)
    · exact hd e h
  · exact hl e (List.mem_of_mem_drop h)
 obtain ⟨s1, s2⟩ := hs.write hob r1 r4 (pos := (E.μ k).base + off * sz) (xs := xs) (by omega) (by omega) (.arr sz (es.take off ++ ds ++ es.drop (off + ds.length))) ⟨hl2, hrow⟩
 exact ⟨s1, s2, Row.there r1 r2 (by omega)⟩
theorem run_storeCells {b c : Nat} {xs : List Value} (ht : w.there b c xs.length) (h1 : ∀ y ∈ xs, y.oneCell' = true) : (storeCells ⟨b, c, none⟩ xs).run P w = .ok () (w.setCells b c xs) := by
 have := run_storeCells_cells (P := P) b c xs 0 w (fun j hj => by simpa using (ht j hj).1) (fun j hj => by simpa using (ht j hj).2) h1
 simpa using this
theorem step_copy {x y : Operand} {d e : Opd} {ts : Array TypeId} {t el : TypeId} {sz : Nat} (ho : o.op = .call { callee := .builtin .copy, args := #[x, y], argTypes := ts }) (ht : ts[0]? = some t) (hu : P.underlying t = some (.slice el))
 (hz : (P.info? el).map (·.size) = some sz) (hx : okX x d = true) (hy : okX y e = true)
 (hs : Sim E st w) (hf : FrRel E N fr a) (hw : (step (.copy sz d e) fr st).wp (ACall P) K) (hc : Cont E st w o a next K) : o.wp P a w next Q := by
 have r1 := okX_rel hx hf
 have r2 := okX_rel hy hf
 cases hq : P.info? el with
 | none => simp [hq] at hz
 | some i =>
 have hi : i.size = sz := by simpa [hq] using hz
 simp only [step] at hw
 obtain ⟨src, xs, hw, hsh⟩ := elems_ok (P := P) hs r2 hw
 split at hw
 case h_2 => exact hw.elim
 rename_i k sz' off len e1
 rw [e1] at r1
 split at hw
 case isFalse => exact hw.elim
 rename_i hz'
 subst hz'
 obtain ⟨ds, hds, ob, hob, hw⟩ := hw
 dsimp only at hw
 split at hw
 case h_2 => exact hw.elim
 rename_i sz'' es
 split at hw
 case isFalse => exact hw.elim
 rename_i hz'
 subst hz'
 obtain ⟨hin, hw⟩ := hw
 have hin : off + len ≤ es.length := by simpa using hin
 obtain ⟨hd1, hd2, hd3⟩ := ownElems_spec hds
 have hlt : ∀ e ∈ src.take len, e.length = sz'' := fun e he => hsh.elen e (List.mem_of_mem_take he)
 have hd3 := hd3 hlt
 have hn : ds.length = min len src.length := by rw [hd2, List.length_take]
 have hxl : (xs.take (ds.length * sz'')).length = ds.length * sz'' := by
  rw [List.length_take, hsh.xlen]
  have : ds.length * sz'' ≤ src.length * sz'' := Nat.mul_le_mul_right _ (by omega)
  omega
 have htk : src.take len = src.take ds.length := by rw [hn, Nat.min_comm, List.take_eq_take_iff]; omega
 have hrr : InRow E (src.take len).flatten (xs.take (ds.length * sz'')) := by
  rw [htk, flat_take hsh.elen]
  exact hsh.rel.take _
 have hrd := hrr.own hd1 (by rw [hxl, flat_len hlt, List.length_take, hn])
 have h1 : ∀ y ∈ xs.take (ds.length * sz''), y.oneCell' = true := fun y hy => hsh.one y (List.mem_of_mem_take hy)
 obtain ⟨s1, s2, s3⟩ := hs.over hob hd3 (off := off) (by omega) hxl hrd h1
 have hfc := hsh.first w rfl ds.length (by omega)
 have hlen := hsh.len w
 generalize hv : a.eval x = y at r1
 cases r1 with
 | deep hd => cases hd
 | ms _ _ _ _ ad cap hk hcc hh hbk ha =>
 refine wp_val (x := goInt ds.length) ?_ (hc _ _ E _ _ hw s1 s2 (.deep (.i _ _)))
 have hmin : Nat.min src.length len = ds.length := by rw [hn]; exact Nat.min_comm _ _
 have hst : (storeCells ad (xs.take (ds.length * sz''))).run P w = .ok () (w.setCells (E.μ k).blk ((E.μ k).base + off * sz'') (xs.take (ds.length * sz''))) := by
  rcases ha with h | h
  · have hn0 : ds.length = 0 := by omega
    have h0 : xs.take (ds.length * sz'') = [] := by simp [hn0]
    rw [h0]; rfl
  · subst h
    exact run_storeCells s3 h1
 simp [execOp, ho, resolve, invoke, builtin, Builtin.copy_, ht, hv, run_underlying hu, hlen, sizeOf, typeInfo, hq, hi, hmin, hfc, hst, Result.andThen]
theorem step_clear {x : Operand} {d : Opd} {ts : Array TypeId} {t el : TypeId} {sz bytes : Nat} {zero : List V} (ho : o.op = .call { callee := .builtin .clear, args := #[x], argTypes := ts }) (ht : ts[0]? = some t) (hu : P.underlying t = some (.slice el))
 (hel : elOk P el sz bytes = true) (hzo : zeroOk P el zero = true) (hx : okX x d = true)
 (hs : Sim E st w) (hf : FrRel E N fr a) (hw : (step (.clear sz zero d) fr st).wp (ACall P) K) (hc : Cont E st w o a next K) : o.wp P a w next Q := by
 obtain ⟨i, z, hi, hz0, hsz, hby, hszp, hbyp, hzs⟩ := elOk_spec hel
 obtain ⟨i', z', hi', hz0', hsz', hr, hl, h1⟩ := zeroOk_spec hzo
 rw [hi] at hi'; cases hi'
 rw [hz0] at hz0'; cases hz0'
 have hzl : zero.length = sz := by omega
 have r1 := okX_rel hx hf
 simp only [step] at hw
 split at hw
 · rename_i e1
   rw [e1] at r1
   have hv := r1.nilsv
   exact wp_val (x := .tuple #[]) (by simp [execOp, ho, resolve, invoke, builtin, Builtin.clear_, ht, hv, run_underlying hu, Result.andThen]) (hc.same hs hw undef_rel)
 · rename_i k sz' off len e1
   rw [e1] at r1
   split at hw
   case isFalse => exact hw.elim
   rename_i hz'
   subst hz'
   obtain ⟨ob, hob, hw⟩ := hw
   dsimp only at hw
   split at hw
   case h_2 => exact hw.elim
   rename_i sz'' es
   split at hw
   case isFalse => exact hw.elim
   rename_i hz'
   subst hz'
   obtain ⟨hin, hw⟩ := hw
   have hin : off + len ≤ es.length := by simpa using hin
   have hlr : ∀ e ∈ List.replicate len zero, e.length = sz'' := fun e he => by rw [(List.mem_replicate.1 he).2]; exact hzl
   have hmr := made_rel (len := len) (hr (E.ofG k.isG)) (by omega)
   have hmo := made_one (n := len * zero.length) h1 (by omega)
   rw [hzl] at hmr hmo
   have hrow := hmr.inRow hmo
   have hms : (madeCells z.cells (len * sz'')).toList.length = (List.replicate len zero).length * sz'' := by simp [size_madeCells]
   have hm1 : ∀ y ∈ (madeCells z.cells (len * sz'')).toList, y.oneCell' = true := fun y hy => by
    obtain ⟨j, hj⟩ := List.getElem?_of_mem hy
    rw [Array.getElem?_toList] at hj
    exact hmo j y hj
   obtain ⟨s1, s2, s3⟩ := hs.over hob hlr (off := off) (by rw [List.length_replicate]; exact hin) hms hrow hm1
   rw [List.length_replicate] at s1 s2
   generalize hv : a.eval x = y at r1
   cases r1 with
   | deep hd => cases hd
   | ms _ _ _ _ ad cap hk hcc hh hbk ha =>
   refine wp_val (x := .tuple #[]) ?_ (hc _ _ E _ _ hw s1 s2 undef_rel)
   cases len with
   | zero =>
     have h0 : (madeCells z.cells (0 * sz'')).toList = [] := by simp [madeCells, Array.range_zero']
     rw [h0]
     simp [execOp, ho, resolve, invoke, builtin, Builtin.clear_, ht, hv, run_underlying hu, Result.andThen, World.setCells]
   | succ n =>
     have ha : ad = ⟨(E.μ k).blk, (E.μ k).base + off * sz'', none⟩ := by
      rcases ha with h | h
      · omega
      · exact h
     subst ha
     have hst := run_storeCells (P := P) s3 hm1
     have hzc : Builtin.zeroCells z.cells (n + 1) = madeCells z.cells ((n + 1) * sz'') := by simp only [Builtin.zeroCells, madeCells, hzs]
     simp [execOp, ho, resolve, invoke, builtin, Builtin.clear_, ht, hv, run_underlying hu, Result.andThen, zeroValue, typeInfo, hi, hz0, hzc, hst]
 · exact hw.elim
/-! Least and greatest. -/
theorem mnmx_spec {max : Bool} : ∀ {vs : List V} {xs : List Value} {v u : V} {x : Value}, RelL E vs xs.toArray → Rel E v x → mnmxFold max v vs = some u →
 ∃ y, (match max with | true => xs.foldlM Builtin.max2 x | false => xs.foldlM Builtin.min2 x : Sem Value).run P w = .ok y w ∧ Rel E u y
 | [], xs, v, u, x, hr, hv, h => by
   have : xs = [] := by
    have := hr.1
    simpa using this
   subst this
   have hu : u = v := by simp [mnmxFold] at h; exact h.symm
   subst hu
   refine ⟨x, ?_, hv⟩
   cases max <;> rfl
 | v1 :: vr, xs, v, u, x, hr, hv, h => by
   have hlen := hr.1
   cases xs with
   | nil => simp at hlen
   | cons x1 xr =>
   have h1 : Rel E v1 x1 := hr.2 0 v1 x1 rfl (by simp)
   have htl : RelL E vr xr.toArray := ⟨by simpa using hlen, fun j q y hq hy => hr.2 (j + 1) q y (by simpa using hq) (by simpa using hy)⟩
   unfold mnmxFold at h
   split at h
   · cases ‹_ = []›
   · rename_i k p k' q r' heq
     cases heq
     have hv := hv.int
     have h1 := h1.int
     subst hv; subst h1
     cases max with
     | true =>
       simp only at h
       obtain ⟨y, hy, hry⟩ := mnmx_spec (x := .int k (if p < q then q else p)) htl (.deep (.i _ _)) h
       refine ⟨y, ?_, hry⟩
       simp only [List.foldlM_cons, Sem.run_bind, Builtin.max2, Sem.run_pure, Result.andThen_ok]
       exact hy
     | false =>
       simp only at h
       obtain ⟨y, hy, hry⟩ := mnmx_spec (x := .int k (if q < p then q else p)) htl (.deep (.i _ _)) h
       refine ⟨y, ?_, hry⟩
       simp only [List.foldlM_cons, Sem.run_bind, Builtin.min2, Sem.run_pure, Result.andThen_ok]
       exact hy
   · cases h
theorem step_mnmx {max : Bool} {xs : Array Operand} {ds : List Opd} {ts : Array TypeId} (ho : o.op = .call { callee := .builtin (if max then .max else .min), args := xs, argTypes := ts }) (hx : okXs xs.toList ds = true)
 (hs : Sim E st w) (hf : FrRel E N fr a) (hw : (step (.mnmx max ds) fr st).wp (ACall P) K) (hc : Cont E st w o a next K) : o.wp P a w next Q := by
 have r1 := okXs_rel hf hx
 simp only [step] at hw
 split at hw
 case h_2 => exact hw.elim
 rename_i v r e1
 rw [e1] at r1
 unfold T.opt at hw
 split at hw
 case h_2 => exact hw.elim
 rename_i u hu
 have hlen := r1.1
 cases hl : xs.toList.map a.eval with
 | nil => rw [hl] at hlen; simp at hlen
 | cons y ys =>
   rw [hl] at r1
   have h1 : Rel E v y := r1.2 0 v y rfl (by simp)
   have htl : RelL E r ys.toArray := ⟨by have := r1.1; simpa using this, fun j q z hq hz => r1.2 (j + 1) q z (by simpa using hq) (by simpa using hz)⟩
   obtain ⟨z, hz, hrz⟩ := mnmx_spec (P := P) (w := w) htl h1 hu
   have hm : (xs.map a.eval).toList = y :: ys := by rw [Array.toList_map, hl]
   refine wp_val (x := z) ?_ (hc.same hs hw hrz)
   cases max with
   | true => simp only at hz; simp [execOp, ho, resolve, invoke, builtin, Builtin.max_, hl, hz, Result.andThen]
   | false => simp only at hz; simp [execOp, ho, resolve, invoke, builtin, Builtin.min_, hl, hz, Result.andThen]
/-! Maps. -/
def keyTy (P : Program) (kt : TypeId) (kd : Option IntKind) : Bool :=
 match P.underlying kt, kd with
 | some .string, none => true
 | some (.int q), some k => decide (q = k)
 | _, _ => false
theorem keyTy_spec {kt : TypeId} {kd : Option IntKind} (h : keyTy P kt kd = true) : ∃ d, P.underlying kt = some d ∧
 ∀ {I : Imm} {v : V} {x : Value}, v.isKeyOf kd = true → RelD I v x → MapKept.IsKey d x := by
 unfold keyTy at h
 split at h
 · rename_i hu
   refine ⟨_, hu, fun {I v x} hk hr => ?_⟩
   unfold V.isKeyOf at hk
   split at hk
   · cases hr; trivial
   · rename_i e1; cases e1
   · cases hk
 · rename_i q k hu
   refine ⟨_, hu, fun {I v x} hk hr => ?_⟩
   simp only [decide_eq_true_eq] at h
   subst h
   unfold V.isKeyOf at hk
   split at hk
   · rename_i e1; cases e1
   · rename_i e1
     cases e1
     simp only [decide_eq_true_eq] at hk
     subst hk
     cases hr; rfl
   · cases hk
 · cases h
theorem Rel.key {kd : Option IntKind} {v : V} {x : Value} (hk : v.isKeyOf kd = true) (h : Rel E v x) : RelD E.I v x := by
 unfold V.isKeyOf at hk
 split at hk
 · cases h; assumption
 · cases h; assumption
 · cases hk
theorem keyEq_iff {I : Imm} {kd : Option IntKind} {v u : V} {x y : Value} (hv : v.isKeyOf kd = true) (hu : u.isKeyOf kd = true) (h1 : RelD I v x) (h2 : RelD I u y) : keyEq v u = true ↔ x = y := by
 unfold V.isKeyOf at hv hu
 split at hv
 · split at hu
   · cases h1; cases h2
     simp only [keyEq, beq_iff_eq, Value.string.injEq]
     constructor
     · rintro rfl; rfl
     · intro h
       have := congrArg (fun b => b.data.toList) h
       simpa [str] using this
   · rename_i e1; cases e1
   · cases hu
 · split at hu
   · rename_i e1; cases e1
   · rename_i e1
     cases e1
     simp only [decide_eq_true_eq] at hv hu
     subst hv; subst hu
     cases h1; cases h2
     simp [keyEq]
   · cases hu
 · cases hv
def PairRel (E : Env) (kd : Option IntKind) (es : List (V × V)) (l : List MapEntry) : Prop :=
 l.length = es.length ∧ ∀ (j : Nat) (q : V × V) (e : MapEntry), es[j]? = some q → l[j]? = some e → RelD E.I q.1 e.key ∧ q.1.isKeyOf kd = true ∧ Rel E q.2 e.val
theorem find_spec {kd : Option IntKind} {d : TypeDesc} (hd : ∀ {I : Imm} {v : V} {x : Value}, v.isKeyOf kd = true → RelD I v x → MapKept.IsKey d x) {kv : V} {k : Value} (hkv : kv.isKeyOf kd = true) (hk : RelD E.I kv k) (u : V) :
 ∀ (es : List (V × V)) (l : List MapEntry) (i : Nat), PairRel E kd es l →
  (Instr.findNow d k l i = some none ∧ mfind es kv = none ∧ mput es kv u = es ++ [(kv, u)] ∧ mdel es kv = es) ∨
  ∃ j e q, Instr.findNow d k l i = some (some (i + j, e.val)) ∧ l[j]? = some e ∧ es[j]? = some q ∧ e.key = k ∧ mfind es kv = some q.2 ∧ mput es kv u = es.set j (kv, u) ∧ mdel es kv = es.eraseIdx j
 | [], l, i, h => by
   have : l = [] := List.eq_nil_of_length_eq_zero h.1
   subst this
   exact .inl ⟨rfl, rfl, rfl, rfl⟩
 | q :: es, l, i, h => by
   obtain ⟨q1, q2⟩ := q
   cases l with
   | nil => have := h.1; simp at this
   | cons e l =>
   obtain ⟨h1, h2, h3⟩ := h.2 0 _ e rfl rfl
   have hkd := hd hkv hk
   have hed := hd h2 h1
   obtain ⟨r, hr, hiff⟩ := MapKept.sameNow_of_keys hkd hed
   have hq := keyEq_iff hkv h2 hk h1
   cases r with
   | true =>
     have he := hiff.1 rfl
     have hke : keyEq kv q1 = true := hq.2 he
     exact .inr ⟨0, e, (q1, q2), by simp [Instr.findNow, hr], rfl, rfl, he.symm, by simp [mfind, hke], by simp [mput, hke], by simp [mdel, hke]⟩
   | false =>
     have hke : keyEq kv q1 = false := by
      cases hb : keyEq kv q1 with
      | false => rfl
      | true => have := hiff.2 (hq.1 hb); cases this
     have hp : PairRel E kd es l := ⟨by have := h.1; simpa using this, fun j p e' hp he => h.2 (j + 1) p e' (by simpa using hp) (by simpa using he)⟩
     rcases find_spec hd hkv hk u es l (i + 1) hp with ⟨a1, a2, a3, a4⟩ | ⟨j, e', q', a1, a2, a3, a4, a5, a6, a7⟩
     · exact .inl ⟨by simp [Instr.findNow, hr, a1], by simp [mfind, hke, a2], by simp [mput, hke, a3], by simp [mdel, hke, a4]⟩
     · exact .inr ⟨j + 1, e', q', by simp [Instr.findNow, hr, a1]; omega, by simpa using a2, by simpa using a3, a4, by simp [mfind, hke, a5], by simp [mput, hke, a6], by simp [mdel, hke, a7]⟩
theorem Sim.mapAt (hs : Sim E st w) {k : Key} {kd : Option IntKind} {es : List (V × V)} (hob : st.get k = some (.mp kd es)) : ∃ ents clock, w.heap[(E.μ k).blk]? = some (.map ents clock) ∧ PairRel (E.at k) kd es ents.toList := by
 obtain ⟨ents, clock, h1, h2, h3, _⟩ := hs.obj k _ hob
 exact ⟨ents, clock, h1, by simpa using h2, fun j q e hq he => h3 j q e hq (by simpa using he)⟩
theorem Sim.mapBorn (hs : Sim E st w) {k : Key} {kd : Option IntKind} {es : List (V × V)} (hob : st.get k = some (.mp kd es)) {ents : Array MapEntry} {clock : Nat} (hb : w.heap[(E.μ k).blk]? = some (.map ents clock)) : Born ents clock := by
 obtain ⟨ents', clock', h1, _, _, h4⟩ := hs.obj k _ hob
 rw [hb] at h1
 cases h1
 exact h4
theorem born_push {ents : Array MapEntry} {clock : Nat} (h : Born ents clock) (k v : Value) : Born (ents.push { key := k, val := v, born := clock }) (clock + 1) := by
 refine ⟨?_, ?_⟩
 · intro x hx
   rw [Array.toList_push, List.mem_append, List.mem_singleton] at hx
   rcases hx with hx | rfl
   · have := h.1 x hx; omega
   · exact Nat.lt_succ_self _
 · rw [Array.toList_push, List.map_append, List.map_cons, List.map_nil]
   refine List.nodup_append.2 ⟨h.2, by simp, ?_⟩
   intro a ha b hb
   rw [List.mem_singleton] at hb
   subst hb
   obtain ⟨x, hx, rfl⟩ := List.mem_map.1 ha
   exact Nat.ne_of_lt (h.1 x hx)
theorem born_modify {ents : Array MapEntry} {clock : Nat} (h : Born ents clock) (j : Nat) (k v : Value) : Born (ents.modify j fun e' => { e' with key := k, val := v }) clock := by
 have hborn : (ents.modify j fun e' => { e' with key := k, val := v }).toList.map (·.born) = ents.toList.map (·.born) := by
  apply List.ext_getElem?
  intro i
  simp only [List.getElem?_map, Array.getElem?_toList, Array.getElem?_modify]
  split
  · rename_i hji; subst hji; cases ents[j]? <;> rfl
  · rfl
 refine ⟨fun x hx => ?_, by rw [hborn]; exact h.2⟩
 have hm : x.born ∈ ents.toList.map (·.born) := by rw [← hborn]; exact List.mem_map_of_mem hx
 obtain ⟨y, hy, he⟩ := List.mem_map.1 hm
 rw [← he]
 exact h.1 y hy
theorem born_erase {ents : Array MapEntry} {clock : Nat} (h : Born ents clock) (j : Nat) : Born (ents.eraseIdxIfInBounds j) clock := by
 unfold Array.eraseIdxIfInBounds
 split
 · rw [Born, Array.toList_eraseIdx]
   exact ⟨fun x hx => h.1 x (List.mem_of_mem_eraseIdx hx), h.2.sublist ((List.eraseIdx_sublist _ _).map _)⟩
 · exact h
theorem Env.at_I (E : Env) (k : Key) : (E.at k).I = E.I := by cases k <;> rfl
theorem Sim.setMap (hs : Sim E st w) {k : Key} {kd : Option IntKind} {es : List (V × V)} (hob : st.get k = some (.mp kd es)) {ents : Array MapEntry} {clock : Nat} (hb : w.heap[(E.μ k).blk]? = some (.map ents clock))
 (ents' : Array MapEntry) (clock' : Nat) (es' : List (V × V)) (hbn : Born ents' clock') (hp : PairRel (E.at k) kd es' ents'.toList) :
 Sim E (st.set k (.mp kd es')) { w with heap := w.heap.setIfInBounds (E.μ k).blk (.map ents' clock') } ∧ Ext E st w E (st.set k (.mp kd es')) { w with heap := w.heap.setIfInBounds (E.μ k).blk (.map ents' clock') } := by
 obtain ⟨q1, q2⟩ := MapKept.heap_set (o' := .map ents' clock') hb
 refine hs.set hob _ (by simp) (fun b hne => q2 b hne) rfl rfl rfl (fun j x hx => ?_) ⟨ents', clock', q1, by simpa using hp.1, fun j q e hq he => hp.2 j q e hq (by simpa using he), hbn⟩
 have := hs.imm _ _ _ hx
 simp [cellIn, hb] at this
theorem step_lkp {t kt el : TypeId} {x y : Operand} {d e : Opd} {kd : Option IntKind} {zero : V} {ok : Bool} {i : TypeInfo} {z : Value} (ho : o.op = .lookup t x y ok) (hu : P.underlying t = some (.map kt el)) (hk : keyTy P kt kd = true)
 (hi : P.info? el = some i) (hz : i.zero = some z) (hzo : constOk 4 z zero = true) (hx : okX x d = true) (hy : okX y e = true)
 (hs : Sim E st w) (hf : FrRel E N fr a) (hw : (step (.lkp kd zero d e ok) fr st).wp (ACall P) K) (hc : Cont E st w o a next K) : o.wp P a w next Q := by
 have r1 := okX_rel hx hf
 have r2 := okX_rel hy hf
 obtain ⟨dd, hdd, hkey⟩ := keyTy_spec hk
 simp only [step] at hw
 split at hw
 case h_2 => exact hw.elim
 rename_i hisk
 have r2d := r2.key hisk
 have hik := hkey hisk r2d
 have pair : ∀ {v : V} {b : Bool} {u : Value}, Rel E v u → Rel E (.tup [v, .b b]) (.tuple #[u, .bool b]) := by
  intro v b u hr
  refine .tup _ _ rfl fun j v' x' h1 h2 => ?_
  match j with
  | 0 => simp at h1 h2; subst h1; subst h2; exact hr
  | 1 => simp at h1 h2; subst h1; subst h2; exact .deep (.b _)
  | j + 2 => simp at h1
 split at hw
 · rename_i e1
   rw [e1] at r1
   generalize hv : a.eval x = y' at r1
   cases r1 with
   | deep hd => cases hd
   | nilm =>
     have hck := MapKept.run_checkKey (w := w) (P := P) hdd hik true 9999
     have hfk : (Instr.findKey kt (a.eval y) []).run P w = .ok none w := MapKept.run_findKey hdd (by rfl)
     unfold lkpRes at hw
     cases ok with
     | true =>
       refine wp_val (x := .tuple #[z, .bool false]) ?_ (hc.same hs (hw.1 rfl) (pair (constOk_rel hzo E)))
       simp [execOp, ho, hv, Instr.lookup, run_underlying hu, hck, hfk, zeroValue, typeInfo, hi, hz]
     | false =>
       refine wp_val (x := z) ?_ (hc.same hs (hw.1 rfl) (constOk_rel hzo E))
       simp [execOp, ho, hv, Instr.lookup, run_underlying hu, hck, hfk, zeroValue, typeInfo, hi, hz]
 · rename_i k e1
   rw [e1] at r1
   obtain ⟨ob, hob, hw⟩ := hw
   dsimp only at hw
   split at hw
   case h_2 => exact hw.elim
   rename_i kd' es
   split at hw
   case isFalse => exact hw.elim
   rename_i hkk
   subst hkk
   generalize hv : a.eval x = y' at r1
   cases r1 with
   | deep hd => cases hd
   | m _ hhk =>
     obtain ⟨ents, clock, hb, hp⟩ := hs.mapAt hob
     have hck := fun b => MapKept.run_checkKey (w := w) (P := P) hdd hik b 9999
     have hg := MapKept.run_getObj_map (P := P) hb
     rcases find_spec (E := E.at k) hkey hisk (by rw [Env.at_I]; exact r2d) .junk es ents.toList 0 hp with ⟨a1, a2, _, _⟩ | ⟨j, en, q, a1, a2, a3, a4, a5, _, _⟩
     · have hfk := MapKept.run_findKey (P := P) (w := w) hdd a1
       unfold lkpRes at hw
       rw [a2] at hw
       cases ok with
       | true =>
         refine wp_val (x := .tuple #[z, .bool false]) ?_ (hc.same hs (hw.1 rfl) (pair (constOk_rel hzo E)))
         simp [execOp, ho, hv, Instr.lookup, run_underlying hu, hg, hck, hfk, zeroValue, typeInfo, hi, hz]
       | false =>
         refine wp_val (x := z) ?_ (hc.same hs (hw.1 rfl) (constOk_rel hzo E))
         simp [execOp, ho, hv, Instr.lookup, run_underlying hu, hg, hck, hfk, zeroValue, typeInfo, hi, hz]
     · have hfk := MapKept.run_findKey (P := P) (w := w) hdd a1
       have hrv := (hp.2 j q en a3 a2).2.2.mono (E.at_le k)
       unfold lkpRes at hw
       rw [a5] at hw
       cases ok with
       | true =>
         refine wp_val (x := .tuple #[en.val, .bool true]) ?_ (hc.same hs (hw.2 _ rfl) (pair hrv))
         simp [execOp, ho, hv, Instr.lookup, run_underlying hu, hg, hck, hfk]
       | false =>
         refine wp_val (x := en.val) ?_ (hc.same hs (hw.2 _ rfl) hrv)
         simp [execOp, ho, hv, Instr.lookup, run_underlying hu, hg, hck, hfk]
 · exact hw.elim
theorem ownV_rel {g : Bool} {v u : V} {x : Value} (h : ownV g v = some u) (hr : Rel E v x) : Rel (E.ofG g) u x := by
 cases g with
 | true => exact pass_rel h hr
 | false => simp only [ownV, Option.some.injEq] at h; subst h; exact hr
theorem step_mupd {t kt el : TypeId} {x y v : Operand} {d e c : Opd} {kd : Option IntKind} (ho : o.op = .mapUpdate t x y v ∨ o.op = .insert t x y v) (hu : P.underlying t = some (.map kt el)) (hk : keyTy P kt kd = true)
 (hx : okX x d = true) (hy : okX y e = true) (hv : okX v c = true)
 (hs : Sim E st w) (hf : FrRel E N fr a) (hw : (step (.mupd kd d e c) fr st).wp (ACall P) K) (hc : Cont E st w o a next K) : o.wp P a w next Q := by
 have r1 := okX_rel hx hf
 have r2 := okX_rel hy hf
 have r3 := okX_rel hv hf
 obtain ⟨dd, hdd, hkey⟩ := keyTy_spec hk
 simp only [step] at hw
 split at hw
 case h_2 => exact hw.elim
 rename_i hisk
 have r2d := r2.key hisk
 have hik := hkey hisk r2d
 split at hw
 case h_2 => exact hw.elim
 rename_i k e1
 rw [e1] at r1
 obtain ⟨ob, hob, hw⟩ := hw
 dsimp only at hw
 split at hw
 case h_2 => exact hw.elim
 rename_i kd' es
 split at hw
 case isFalse => exact hw.elim
 rename_i hkk
 subst hkk
 unfold T.opt at hw
 split at hw
 case h_2 => exact hw.elim
 rename_i u hu2
 have hru := ownV_rel hu2 r3
 rw [← Env.at_isG] at hru
 generalize hvv : a.eval x = y' at r1
 cases r1 with
 | deep hd => cases hd
 | m _ hhk =>
   obtain ⟨ents, clock, hb, hp⟩ := hs.mapAt hob
   have hck := fun b => MapKept.run_checkKey (w := w) (P := P) hdd hik b 9999
   have hg := MapKept.run_getObj_map (P := P) hb
   have r2a : RelD (E.at k).I (e.ev fr) (a.eval y) := by rw [Env.at_I]; exact r2d
   rcases find_spec (E := E.at k) hkey hisk r2a u es ents.toList 0 hp with ⟨a1, a2, a3, _⟩ | ⟨j, en, q, a1, a2, a3, a4, a5, a6, _⟩
   · have hfk := MapKept.run_findKey (P := P) (w := w) hdd a1
     dsimp only at hw
     rw [a3] at hw
     obtain ⟨s1, s2⟩ := hs.setMap hob hb (ents.push { key := a.eval y, val := a.eval v, born := clock }) (clock + 1) (es ++ [(e.ev fr, u)]) (born_push (hs.mapBorn hob hb) _ _) ⟨by simp [← hp.1], fun j q en hq hen => by
      rw [Array.toList_push] at hen
      rw [List.getElem?_append] at hq hen
      have hlen := hp.1
      split at hq
      · rename_i hlt
        rw [if_pos (by omega)] at hen
        exact hp.2 j q en hq hen
      · rename_i hlt
        rw [if_neg (by omega)] at hen
        have h0 : j - es.length = 0 := by
         have := (List.getElem?_eq_some_iff.1 hq).1
         simp at this; omega
        rw [h0] at hq
        rw [hlen, h0] at hen
        simp at hq hen
        subst hq; subst hen
        exact ⟨r2a, hisk, hru⟩⟩
     refine wp_skp ?_ (hc _ _ E _ _ hw s1 s2 undef_rel)
     rcases ho with ho | ho <;> simp [execOp, ho, hvv, Instr.mapUpdate, run_underlying hu, hg, hck, hfk, MapKept.run_setObj_map _ hb]
   · have hfk := MapKept.run_findKey (P := P) (w := w) hdd a1
     have hj : ents[j]? = some en := by simpa using a2
     dsimp only at hw
     rw [a6] at hw
     obtain ⟨s1, s2⟩ := hs.setMap hob hb (ents.modify j fun e' => { e' with key := a.eval y, val := a.eval v }) clock (es.set j (e.ev fr, u)) (born_modify (hs.mapBorn hob hb) _ _ _) ⟨by simp [← hp.1], fun i q' en' hq hen => by
      rw [Array.getElem?_toList, Array.getElem?_modify] at hen
      by_cases hij : j = i
      · subst hij
        rw [if_pos rfl, hj] at hen
        simp only [Option.map_some, Option.some.injEq] at hen
        have hlt := (List.getElem?_eq_some_iff.1 a3).1
        rw [List.getElem?_set_self hlt] at hq
        simp only [Option.some.injEq] at hq
        subst hq; subst hen
        exact ⟨r2a, hisk, hru⟩
      · rw [if_neg hij] at hen
        rw [List.getElem?_set_ne hij] at hq
        exact hp.2 i q' en' hq (by simpa using hen)⟩
     refine wp_skp ?_ (hc _ _ E _ _ hw s1 s2 undef_rel)
     rcases ho with ho | ho <;> simp [execOp, ho, hvv, Instr.mapUpdate, run_underlying hu, hg, hck, hfk, hj, a4, MapKept.run_keyThatStays hik, MapKept.run_setObj_map _ hb]
theorem erase_rel {kd : Option IntKind} {es : List (V × V)} {l : List MapEntry} (hp : PairRel E kd es l) {j : Nat} (_hj : j < l.length) : PairRel E kd (es.eraseIdx j) (l.eraseIdx j) := by
 have hlen := hp.1
 refine ⟨by rw [List.length_eraseIdx, List.length_eraseIdx, hlen], fun i q e hq he => ?_⟩
 rw [List.getElem?_eraseIdx] at hq he
 split at hq
 · rename_i h
   rw [if_pos h] at he
   exact hp.2 _ q e hq he
 · rename_i h
   rw [if_neg h] at he
   exact hp.2 _ q e hq he
theorem step_delete {ts : Array TypeId} {t kt el : TypeId} {x y : Operand} {d e : Opd} {kd : Option IntKind} (ho : o.op = .call { callee := .builtin .delete, args := #[x, y], argTypes := ts }) (ht : ts[0]? = some t) (hu : P.underlying t = some (.map kt el)) (hk : keyTy P kt kd = true)
 (hx : okX x d = true) (hy : okX y e = true)
 (hs : Sim E st w) (hf : FrRel E N fr a) (hw : (step (.delete kd d e) fr st).wp (ACall P) K) (hc : Cont E st w o a next K) : o.wp P a w next Q := by
 have r1 := okX_rel hx hf
 have r2 := okX_rel hy hf
 obtain ⟨dd, hdd, hkey⟩ := keyTy_spec hk
 simp only [step] at hw
 split at hw
 case h_2 => exact hw.elim
 rename_i hisk
 have r2d := r2.key hisk
 have hik := hkey hisk r2d
 split at hw
 · rename_i e1
   rw [e1] at r1
   generalize hv : a.eval x = y' at r1
   cases r1 with
   | deep hd => cases hd
   | nilm =>
     have hck := MapKept.run_checkKey (w := w) (P := P) hdd hik true 9999
     exact wp_val (x := .tuple #[]) (by simp [execOp, ho, resolve, invoke, builtin, Builtin.delete_, ht, hv, run_underlying hu, hck, Result.andThen]) (hc.same hs hw undef_rel)
 · rename_i k e1
   rw [e1] at r1
   obtain ⟨ob, hob, hw⟩ := hw
   dsimp only at hw
   split at hw
   case h_2 => exact hw.elim
   rename_i kd' es
   split at hw
   case isFalse => exact hw.elim
   rename_i hkk
   subst hkk
   generalize hvv : a.eval x = y' at r1
   cases r1 with
   | deep hd => cases hd
   | m _ hhk =>
     obtain ⟨ents, clock, hb, hp⟩ := hs.mapAt hob
     have hck := fun b => MapKept.run_checkKey (w := w) (P := P) hdd hik b 9999
     have hg := MapKept.run_getObj_map (P := P) hb
     have r2a : RelD (E.at k).I (e.ev fr) (a.eval y) := by rw [Env.at_I]; exact r2d
     rcases find_spec (E := E.at k) hkey hisk r2a .junk es ents.toList 0 hp with ⟨a1, a2, _, a4⟩ | ⟨j, en, q, a1, a2, a3, a4, a5, _, a7⟩
     · have hfk := MapKept.run_findKey (P := P) (w := w) hdd a1
       rw [a4] at hw
       obtain ⟨s1, s2⟩ := hs.setMap hob hb ents clock es (hs.mapBorn hob hb) hp
       refine wp_val (x := .tuple #[]) ?_ (hc _ _ E _ _ hw s1 s2 undef_rel)
       simp [execOp, ho, resolve, invoke, builtin, Builtin.delete_, ht, hvv, run_underlying hu, hg, hck, hfk, MapKept.run_setObj_map _ hb, Result.andThen]
     · have hfk := MapKept.run_findKey (P := P) (w := w) hdd a1
       rw [a7] at hw
       have hlt := (List.getElem?_eq_some_iff.1 a2).1
       have hlt' : j < ents.size := by simpa using hlt
       have hpe := erase_rel hp hlt
       have hee : (ents.eraseIdxIfInBounds j).toList = ents.toList.eraseIdx j := by
        unfold Array.eraseIdxIfInBounds
        rw [dif_pos hlt']
        simp
       rw [← hee] at hpe
       obtain ⟨s1, s2⟩ := hs.setMap hob hb (ents.eraseIdxIfInBounds j) clock (es.eraseIdx j) (born_erase (hs.mapBorn hob hb) _) hpe
       refine wp_val (x := .tuple #[]) ?_ (hc _ _ E _ _ hw s1 s2 undef_rel)
       simp [execOp, ho, resolve, invoke, builtin, Builtin.delete_, ht, hvv, run_underlying hu, hg, hck, hfk, MapKept.run_setObj_map _ hb, Result.andThen]
 · exact hw.elim
/-! Calls. -/
theorem run_callFunc {f : Nat} {args : Array Value} (h : bodyOk P f = true) : (callFunc f args).run P w = .ok (.enter f args) w := by
 unfold bodyOk at h
 split at h
 · rename_i fn hfn
   simp only [Bool.and_eq_true, Bool.not_eq_true', beq_eq_false_iff_ne] at h
   obtain ⟨h1, h2⟩ := h
   have h3 : fn.body.isNone = false := by cases hb : fn.body <;> simp [hb] at h1 ⊢
   have h4 : ¬ fn.body = none := by intro h; rw [h] at h1; cases h1
   simp [callFunc, hfn, h2, h4]
 · cases h
theorem wp_enter {f : Nat} {args : Array Value} (h : (execOp a.eval o).run P w = .ok (.enter f args) w) (hc : Calls P f args w fun
 | .returned v, w'' => next (a.put o.dst v) w''
 | .panicked chain, w'' => Q (.panic chain) a w''
 | .outgrown, _ => LetsOut Q) : o.wp P a w next Q := by
 unfold Oper.wp
 rw [h, Oper.upon_enter]
 exact hc
theorem step_call {f : Nat} {xs : Array Operand} {ds : List Opd} {ts : Array TypeId} (ho : o.op = .call { callee := .value (.func f), args := xs, argTypes := ts }) (hx : okXs xs.toList ds = true)
 (hs : Sim E st w) (hf : FrRel E N fr a) (hw : (step (.call f ds) fr st).wp (ACall P) K) (hc : Cont E st w o a next K) : o.wp P a w next Q := by
 have r1 := okXs_rel hf hx
 simp only [step] at hw
 unfold T.opt at hw
 split at hw
 case h_2 => exact hw.elim
 rename_i vs hvs
 have hb : bodyOk P f = true := hw.1
 have e : (xs.toList.map a.eval).toArray = xs.map a.eval := by
  apply Array.ext'
  simp
 rw [e] at r1
 refine wp_enter (f := f) (args := xs.map a.eval) ?_ (ACall.use hs hvs r1 hw (fun v h' E' w' x hk s1 s2 hr => hc v _ E' w' x hk s1 s2 hr))
 simp [execOp, ho, resolve, Act.eval, Deferred.ofValue, invoke, run_callFunc hb]
theorem step_callv {f : Operand} {g : Opd} {xs : Array Operand} {ds : List Opd} {ts : Array TypeId} (ho : o.op = .call { callee := .value f, args := xs, argTypes := ts }) (hg : okX f g = true) (hx : okXs xs.toList ds = true)
 (hs : Sim E st w) (hf : FrRel E N fr a) (hw : (step (.callv g ds) fr st).wp (ACall P) K) (hc : Cont E st w o a next K) : o.wp P a w next Q := by
 have r0 := okX_rel hg hf
 have r1 := okXs_rel hf hx
 simp only [step] at hw
 split at hw
 case h_2 => exact hw.elim
 rename_i n first cap e1
 rw [e1] at r0
 unfold T.opt at hw
 split at hw
 case h_2 => exact hw.elim
 rename_i vs hvs
 have hb : bodyOk P n = true := hw.1
 have e : (xs.toList.map a.eval).toArray = xs.map a.eval := by
  apply Array.ext'
  simp
 rw [e] at r1
 generalize hv : a.eval f = y at r0
 cases r0 with
 | deep hd => cases hd
 | fn _ _ _ fa ca h1 h2 h3 h4 =>
   have hall : RelL E (first ++ Opd.evs fr ds ++ cap) (fa ++ xs.map a.eval ++ ca) := (RelL.append (RelL.append ⟨h1, h3⟩ r1) ⟨h2, h4⟩)
   refine wp_enter (f := n) (args := fa ++ xs.map a.eval ++ ca) ?_ (ACall.use hs hvs hall hw (fun v h' E' w' x hk s1 s2 hr => hc v _ E' w' x hk s1 s2 hr))
   simp [execOp, ho, resolve, hv, Deferred.ofValue, invoke, run_callFunc hb]
end
end Go.Eng
/-
Each operation of the model does what the abstract step says (part twelve: == of what is held in cells).
-/
namespace Go.Eng
open Go
def rowSz (row : Bool) (ks : List CK) : Option Nat := if row then some ks.length else none
def eqFieldsLay (P : Program) (lay : TypeId → Option (Bool × List CK)) : List Field → Nat → Option (List CK)
 | [], _ => some []
 | f :: fs, acc => match lay f.type with
   | some (row, ks) => if f.name ≠ "_" ∧ f.offset = acc ∧ 0 < ks.length ∧ szOk P f.type (rowSz row ks) = true then
      (match eqFieldsLay P lay fs (acc + ks.length) with
      | some rest => some (ks ++ rest)
      | none => none)
     else none
   | none => none
def eqLay (P : Program) : Nat → TypeId → Option (Bool × List CK)
 | 0, _ => none
 | n + 1, t => match P.underlying t with
   | some .bool => some (false, [.b])
   | some (.int _) => some (false, [.i])
   | some .string => some (false, [.s])
   | some (.struct fs) => if P.stoodInHeld t = true then none else match eqFieldsLay P (eqLay P n) fs.toList 0 with
     | some ks => some (true, ks)
     | none => none
   | some (.array len e) => match eqLay P n e with
     | some (row, ks) => if (P.info? e).map (·.size) = some ks.length ∧ 0 < ks.length ∧ szOk P e (rowSz row ks) = true then some (true, (List.replicate len ks).flatten) else none
     | none => none
   | _ => none
theorem cellsEq_append : ∀ {k1 k2 : List CK} {cs ds : List V} {r : Bool}, cellsEq (k1 ++ k2) cs ds = some r →
 k1.length ≤ cs.length ∧ k1.length ≤ ds.length ∧ ∃ r1 r2, cellsEq k1 (cs.take k1.length) (ds.take k1.length) = some r1 ∧ cellsEq k2 (cs.drop k1.length) (ds.drop k1.length) = some r2 ∧ r = (r1 && r2)
 | [], k2, cs, ds, r, h => ⟨Nat.zero_le _, Nat.zero_le _, true, r, by simp [cellsEq], by simpa using h, by simp⟩
 | k :: k1, k2, cs, ds, r, h => by
   cases cs with
   | nil => simp [cellsEq] at h
   | cons c cs =>
   cases ds with
   | nil => simp [cellsEq] at h
   | cons d ds =>
   simp only [List.cons_append, cellsEq] at h
   split at h
   · rename_i a b ha hb
     simp only [Option.some.injEq] at h
     subst h
     obtain ⟨h1, h2, r1, r2, h3, h4, rfl⟩ := cellsEq_append hb
     refine ⟨by simp [h1], by simp [h2], a && r1, r2, by simp [cellsEq, ha, h3], by simpa using h4, by simp [Bool.and_assoc]⟩
   · cases h
section
variable {P : Program} {o : Oper} {a : Act} {E : Env} {N : Nat} {st : St} {w : World} {fr : Fr} {next : Act → World → Prop} {Q : Exit → Act → World → Prop} {K : R → Prop}
def EqOk (P : Program) (E : Env) (d : Nat) (lay : TypeId → Option (Bool × List CK)) : Prop :=
 ∀ (t : TypeId) (row : Bool) (ks : List CK), lay t = some (row, ks) → ∀ (w : World) (v u : V) (x y : Value) (cs ds : List V) (r : Bool), Rel E v x → Rel E u y → v.row row = some cs → u.row row = some ds → cellsEq ks cs ds = some r →
  (Op.equalIn d t x y).run P w = .ok r w
theorem part_eq {d : Nat} {lay : TypeId → Option (Bool × List CK)} (IH : EqOk P E d lay) {t : TypeId} {row : Bool} {ks : List CK} (hl : lay t = some (row, ks)) (hz : szOk P t (rowSz row ks) = true) (h1k : row = false → ks.length = 1) (hpos : 0 < ks.length)
 {cs ds : List V} {xs ys : Array Value} (hx : RelL E cs xs) (hy : RelL E ds ys) (hx1 : ∀ (j : Nat) (x : Value), xs[j]? = some x → x.oneCell' = true) (hy1 : ∀ (j : Nat) (x : Value), ys[j]? = some x → x.oneCell' = true)
 {off : Nat} {r : Bool} (hlc : ks.length ≤ (cs.drop off).length) (hld : ks.length ≤ (ds.drop off).length) (hr : cellsEq ks ((cs.drop off).take ks.length) ((ds.drop off).take ks.length) = some r) (w : World) :
 ∃ x y, (part t xs off).run P w = .ok x w ∧ (part t ys off).run P w = .ok y w ∧ (Op.equalIn d t x y).run P w = .ok r w := by
 cases row with
 | true =>
   have hz : szOk P t (some ks.length) = true := hz
   have ldc : ∀ {l : List V}, ks.length ≤ (l.drop off).length → off ≤ l.length → ldCells l off (some ks.length) = some (.agg ((l.drop off).take ks.length)) := by
    intro l h h'
    simp only [ldCells]
    rw [if_pos (by simp at h; omega)]
   have ho1 : off ≤ cs.length := by rw [List.length_drop] at hlc; omega
   have ho2 : off ≤ ds.length := by rw [List.length_drop] at hld; omega
   obtain ⟨x, p1, q1⟩ := run_part (w := w) hz hx hx1 (ldc hlc ho1)
   obtain ⟨y, p2, q2⟩ := run_part (w := w) hz hy hy1 (ldc hld ho2)
   exact ⟨x, y, p1, p2, IH t true ks hl w _ _ x y _ _ r q1 q2 rfl rfl hr⟩
 | false =>
   have hz : szOk P t none = true := hz
   have h1 := h1k rfl
   obtain ⟨k, rfl⟩ : ∃ k, ks = [k] := by
    match ks, h1 with
    | [k], _ => exact ⟨k, rfl⟩
   simp only [List.length_singleton] at hr hlc hld
   have get : ∀ {l : List V}, 1 ≤ (l.drop off).length → ∃ c, l[off]? = some c ∧ (l.drop off).take 1 = [c] := by
    intro l h
    simp only [List.length_drop] at h
    have hlt : off < l.length := by omega
    refine ⟨l[off], by simp [hlt], ?_⟩
    rw [List.drop_eq_getElem_cons hlt]
    rfl
   obtain ⟨c, hc1, hc2⟩ := get hlc
   obtain ⟨d', hd1, hd2⟩ := get hld
   rw [hc2, hd2] at hr
   obtain ⟨x, p1, q1⟩ := run_part (w := w) hz hx hx1 hc1
   obtain ⟨y, p2, q2⟩ := run_part (w := w) hz hy hy1 hd1
   refine ⟨x, y, p1, p2, IH t false [k] hl w c d' x y [c] [d'] r q1 q2 ?_ ?_ hr⟩
   · cases c <;> first | rfl | (cases k <;> simp [cellsEq, cellEq] at hr)
   · cases d' <;> first | rfl | (cases k <;> cases c <;> simp [cellsEq, cellEq] at hr)
theorem lay_one {n : Nat} {t : TypeId} {ks : List CK} (h : eqLay P n t = some (false, ks)) : ks.length = 1 := by
 cases n with
 | zero => cases h
 | succ n =>
   unfold eqLay at h
   split at h
   · cases h; rfl
   · cases h; rfl
   · cases h; rfl
   · split at h
     · cases h
     · split at h <;> cases h
   · split at h
     · split at h <;> cases h
     · cases h
   · cases h
theorem fields_eq {d : Nat} {lay : TypeId → Option (Bool × List CK)} (IH : EqOk P E d lay) (h1k : ∀ t ks, lay t = some (false, ks) → ks.length = 1)
 {cs ds : List V} {xs ys : Array Value} (hx : RelL E cs xs) (hy : RelL E ds ys) (hx1 : ∀ (j : Nat) (x : Value), xs[j]? = some x → x.oneCell' = true) (hy1 : ∀ (j : Nat) (x : Value), ys[j]? = some x → x.oneCell' = true) :
 ∀ (fs : List Field) (acc : Nat) (ks : List CK) (r : Bool), eqFieldsLay P lay fs acc = some ks → cellsEq ks (cs.drop acc) (ds.drop acc) = some r → ∀ w, (Op.eqFields d xs ys fs).run P w = .ok r w
 | [], acc, ks, r, h, hr, w => by
   simp only [eqFieldsLay, Option.some.injEq] at h
   subst h
   have : r = true := by
    cases hc : cs.drop acc <;> cases hd : ds.drop acc <;> rw [hc, hd] at hr <;> simp [cellsEq] at hr
    exact hr
   subst this
   simp [Op.eqFields]
 | f :: fs, acc, ks, r, h, hr, w => by
   simp only [eqFieldsLay] at h
   split at h
   case h_2 => cases h
   rename_i row k1 hl
   split at h
   case isFalse => cases h
   rename_i hc
   obtain ⟨c1, c2, c3, c4⟩ := hc
   split at h
   case h_2 => cases h
   rename_i rest hrest
   simp only [Option.some.injEq] at h
   subst h
   obtain ⟨l1, l2, r1, r2, e1, e2, rfl⟩ := cellsEq_append hr
   obtain ⟨x, y, p1, p2, p3⟩ := part_eq IH hl c4 (fun hrow => h1k _ _ (by rw [← hrow]; exact hl)) c3 hx hy hx1 hy1 l1 l2 e1 w
   rw [List.drop_drop, List.drop_drop] at e2
   have ih := fields_eq IH h1k hx hy hx1 hy1 fs (acc + k1.length) rest r2 hrest e2 w
   simp only [Op.eqFields]
   rw [if_pos c1, c2]
   simp only [Sem.run_bind, p1, p2, p3, Result.andThen_ok]
   cases r1
   · simp
   · simpa using ih
theorem items_eq {d : Nat} {lay : TypeId → Option (Bool × List CK)} (IH : EqOk P E d lay) {e : TypeId} {row : Bool} {k1 : List CK} (hl : lay e = some (row, k1)) (h1k : row = false → k1.length = 1) (hpos : 0 < k1.length)
 (hz : szOk P e (rowSz row k1) = true)
 {cs ds : List V} {xs ys : Array Value} (hx : RelL E cs xs) (hy : RelL E ds ys) (hx1 : ∀ (j : Nat) (x : Value), xs[j]? = some x → x.oneCell' = true) (hy1 : ∀ (j : Nat) (x : Value), ys[j]? = some x → x.oneCell' = true) :
 ∀ (m i : Nat) (r : Bool), cellsEq (List.replicate m k1).flatten (cs.drop (i * k1.length)) (ds.drop (i * k1.length)) = some r → ∀ w, (Op.eqItems d e k1.length xs ys (List.range' i m)).run P w = .ok r w
 | 0, i, r, hr, w => by
   have : r = true := by
    cases hc : cs.drop (i * k1.length) <;> cases hd : ds.drop (i * k1.length) <;> rw [hc, hd] at hr <;> simp [cellsEq] at hr
    exact hr
   subst this
   simp [Op.eqItems]
 | m + 1, i, r, hr, w => by
   rw [List.replicate_succ, List.flatten_cons] at hr
   obtain ⟨l1, l2, r1, r2, e1, e2, rfl⟩ := cellsEq_append hr
   obtain ⟨x, y, p1, p2, p3⟩ := part_eq IH hl hz h1k hpos hx hy hx1 hy1 l1 l2 e1 w
   rw [List.drop_drop, List.drop_drop, ← Nat.succ_mul] at e2
   have ih := items_eq IH hl h1k hpos hz hx hy hx1 hy1 m (i + 1) r2 e2 w
   rw [List.range'_succ]
   simp only [Op.eqItems, Sem.run_bind, p1, p2, p3, Result.andThen_ok]
   cases r1
   · simp
   · simpa using ih
theorem eqLay_ok (d : Nat) : ∀ n, EqOk P E (d + n) (eqLay P n)
 | 0 => fun t row ks h => by cases h
 | n + 1 => fun t row ks h w v u x y cs ds r hv hu hcs hds hr => by
   unfold eqLay at h
   rw [show d + (n + 1) = (d + n) + 1 from rfl]
   split at h
   · rename_i hut
     cases h
     cases hcs' : v <;> rw [hcs'] at hcs <;> simp [V.row] at hcs <;> subst hcs
     all_goals (cases hds' : u <;> rw [hds'] at hds <;> simp [V.row] at hds <;> subst hds)
     all_goals (simp [cellsEq, cellEq] at hr)
     subst hcs'; subst hds'; subst hr
     rw [hv.bool, hu.bool, run_equalIn_bool w _ t _ _ hut]
   · rename_i k hut
     cases h
     cases hcs' : v <;> rw [hcs'] at hcs <;> simp [V.row] at hcs <;> subst hcs
     all_goals (cases hds' : u <;> rw [hds'] at hds <;> simp [V.row] at hds <;> subst hds)
     all_goals (simp [cellsEq, cellEq] at hr)
     rename_i k1 n1 k2 n2
     subst hcs'; subst hds'
     by_cases hk : k1 = k2
     · subst hk
       simp at hr
       subst hr
       rw [hv.int, hu.int, run_equalIn_int w _ t k1 k _ _ hut]
       rfl
     · simp [hk] at hr
   · rename_i hut
     cases h
     cases hcs' : v <;> rw [hcs'] at hcs <;> simp [V.row] at hcs <;> subst hcs
     all_goals (cases hds' : u <;> rw [hds'] at hds <;> simp [V.row] at hds <;> subst hds)
     all_goals (simp [cellsEq, cellEq] at hr)
     subst hcs'; subst hds'; subst hr
     rw [hv.strv, hu.strv, run_equalIn_string w _ t _ _ hut, str_toList, str_toList]
   · rename_i fs hut
     split at h
     · cases h
     rename_i hst
     split at h
     case h_2 => cases h
     rename_i k1 hk1
     simp only [Option.some.injEq, Prod.mk.injEq] at h
     obtain ⟨rfl, rfl⟩ := h
     cases hcs' : v <;> rw [hcs'] at hcs <;> simp [V.row] at hcs
     subst hcs
     cases hds' : u <;> rw [hds'] at hds <;> simp [V.row] at hds
     subst hds
     subst hcs'; subst hds'
     cases hv with
     | deep hd => cases hd
     | agg _ xs hx1 hx2 hx3 =>
     cases hu with
     | deep hd => cases hd
     | agg _ ys hy1 hy2 hy3 =>
     have hfs : P.fieldsOf t = fs := by simp [Program.fieldsOf, hut]
     rw [run_equalIn_struct w (d + n) t xs ys (by rw [hfs]; exact hut) (by simpa using hst), hfs]
     exact fields_eq (eqLay_ok d n) (fun _ _ => lay_one) ⟨hx1, hx3⟩ ⟨hy1, hy3⟩ hx2 hy2 fs.toList 0 _ r hk1 (by simpa using hr) w
   · rename_i len e hut
     split at h
     case h_2 => cases h
     rename_i row' k1 hk1
     split at h
     case isFalse => cases h
     rename_i hc
     obtain ⟨c1, c2, c3⟩ := hc
     simp only [Option.some.injEq, Prod.mk.injEq] at h
     obtain ⟨rfl, rfl⟩ := h
     cases hcs' : v <;> rw [hcs'] at hcs <;> simp [V.row] at hcs
     subst hcs
     cases hds' : u <;> rw [hds'] at hds <;> simp [V.row] at hds
     subst hds
     subst hcs'; subst hds'
     cases hv with
     | deep hd => cases hd
     | agg _ xs hx1 hx2 hx3 =>
     cases hu with
     | deep hd => cases hd
     | agg _ ys hy1 hy2 hy3 =>
     cases hq : P.info? e with
     | none => simp [hq] at c1
     | some i =>
     have hcell : P.cellsOf e = k1.length := by
      simp [hq] at c1
      simp [Program.cellsOf, hq, c1]
     rw [run_equalIn_array w (d + n) xs ys hut hq, hcell, List.range_eq_range']
     exact items_eq (eqLay_ok d n) hk1 (fun hrow => lay_one (by rw [← hrow]; exact hk1)) c2 c3 ⟨hx1, hx3⟩ ⟨hy1, hy3⟩ hx2 hy2 len 0 r (by simpa using hr) w
   · cases h
def eqcOk (P : Program) (t : TypeId) (row : Bool) (ks : List CK) : Bool :=
 decide (eqLay P 20 t = some (row, ks)) && !P.eqGuardType P.depth t && (row || decide (ks = [.b]))
theorem T.opt_wp {α β : Type} {A : CallP} {o : Option α} {k : α → T β} {K : β → Prop} (h : (T.opt o k).wp A K) : ∃ x, o = some x ∧ (k x).wp A K := by
 unfold T.opt at h
 cases o with
 | none => exact h.elim
 | some x => exact ⟨x, rfl, h⟩
theorem step_eqc {op : BinOp} {t yt : TypeId} {x y : Operand} {d e : Opd} {row neg : Bool} {ks : List CK} (ho : o.op = .binOp op t x y yt) (hop : op = if neg then .neq else .eql) (hx : okX x d = true) (hy : okX y e = true) (hn : eqcOk P t row ks = true)
 (hs : Sim E st w) (hf : FrRel E N fr a) (hw : (step (.eqc row ks neg d e) fr st).wp (ACall P) K) (hc : Cont E st w o a next K) : o.wp P a w next Q := by
 have r1 := okX_rel hx hf
 have r2 := okX_rel hy hf
 unfold eqcOk at hn
 simp only [Bool.and_eq_true, decide_eq_true_eq, Bool.not_eq_true', Bool.or_eq_true] at hn
 obtain ⟨⟨hn, hgt⟩, hone⟩ := hn
 simp only [step] at hw
 obtain ⟨cs, hcs, hw⟩ := T.opt_wp hw
 obtain ⟨ds, hds, hw⟩ := T.opt_wp hw
 obtain ⟨r, hr, hw⟩ := T.opt_wp hw
 have h := eqLay_ok (E := E) (P := P) 9980 20 t row ks hn w _ _ _ _ cs ds r r1 r2 hcs hds hr
 have h : (Op.equal t (a.eval x) (a.eval y)).run P w = .ok r w := h
 have hk : K (.b (if neg then !r else r), st) := by cases neg <;> exact hw
 have fin : (eqGuard op t x y (a.eval x) (a.eval y)).run P w = .ok () w → (binOp op t (a.eval x) (a.eval y)).run P w = .ok (.bool (if neg then !r else r)) w → o.wp P a w next Q := by
  intro h1 h2
  exact wp_val (x := .bool (if neg then !r else r)) (by simp [execOp, ho, h1, h2]) (hc.same hs hk (.deep (.b _)))
 cases row with
 | true =>
   have hv : ∃ c, d.ev fr = .agg c := by
    cases hq : d.ev fr <;> rw [hq] at hcs <;> simp [V.row] at hcs
    exact ⟨_, rfl⟩
   have hu : ∃ c, e.ev fr = .agg c := by
    cases hq : e.ev fr <;> rw [hq] at hds <;> simp [V.row] at hds
    exact ⟨_, rfl⟩
   obtain ⟨c1, hv⟩ := hv
   obtain ⟨c2, hu⟩ := hu
   rw [hv] at r1
   rw [hu] at r2
   generalize hx2 : a.eval x = x' at r1 fin h
   generalize hy2 : a.eval y = y' at r2 fin h
   cases r1 with
   | deep hd => cases hd
   | agg _ xs =>
   cases r2 with
   | deep hd => cases hd
   | agg _ ys =>
   refine fin (run_eqGuard_agg w op t x y xs ys hgt) ?_
   have h : (Op.equalIn 10000 t (.agg xs) (.agg ys)).run P w = .ok r w := h
   subst hop
   cases neg with
   | true => simp only [if_true]; rw [run_neq_struct, h]; rfl
   | false => simp only [Bool.false_eq_true, if_false]; rw [run_eql_struct, h]; rfl
 | false =>
   have hks : ks = [.b] := by simpa using hone
   subst hks
   have hv : ∃ b, d.ev fr = .b b := by
    cases hq : d.ev fr <;> rw [hq] at hcs <;> simp [V.row] at hcs <;> subst hcs
    all_goals (cases ds with
     | nil => simp [cellsEq] at hr
     | cons q qs => cases q <;> first | exact ⟨_, rfl⟩ | simp [cellsEq, cellEq] at hr)
   have hu : ∃ b, e.ev fr = .b b := by
    cases hq : e.ev fr <;> rw [hq] at hds <;> simp [V.row] at hds <;> subst hds
    all_goals (cases cs with
     | nil => simp [cellsEq] at hr
     | cons q qs => cases q <;> first | exact ⟨_, rfl⟩ | simp [cellsEq, cellEq] at hr)
   obtain ⟨b1, hv⟩ := hv
   obtain ⟨b2, hu⟩ := hu
   rw [hv] at r1
   rw [hu] at r2
   have r1 := r1.bool
   have r2 := r2.bool
   rw [r1, r2] at h
   refine fin (by rw [r1, eqGuard_at_bool]; rfl) ?_
   rw [r1, r2]
   subst hop
   cases neg <;> simp [binOp, h]
end
end Go.Eng
/-
Each operation of the model does what the abstract step says (part thirteen: a slice cut to a capacity, of which nothing is told).
-/
namespace Go.Eng
open Go
section
variable {P : Program} {o : Oper} {a : Act} {E : Env} {N : Nat} {st : St} {w : World} {fr : Fr} {next : Act → World → Prop} {Q : Exit → Act → World → Prop} {K : R → Prop}
theorem run_bounds3 (len cap : Nat) {lo hi mx : Option Value} {l h m : Int} (hh : ∃ k, hi = some (.int k h)) (hm : ∃ k, mx = some (.int k m)) (hl : (lo = none ∧ l = 0) ∨ ∃ k, lo = some (.int k l))
 (h0 : 0 ≤ l) (h1 : l ≤ h) (h2 : h ≤ m) (h3 : m ≤ cap) : (Instr.sliceBounds true len cap lo hi mx).run P w = .ok (l.toNat, h.toNat, m.toNat) w := by
 have c0 : 0 ≤ m := by omega
 have c1 : 0 ≤ h := by omega
 have d1 : max m 0 = m := by omega
 have d2 : max h 0 = h := by omega
 obtain ⟨k, rfl⟩ := hh
 obtain ⟨k', rfl⟩ := hm
 have n1 : ¬ m < h := by omega
 have n2 : ¬ h < l := by omega
 rcases hl with ⟨rfl, rfl⟩ | ⟨k2, rfl⟩ <;> simp [Instr.sliceBounds, run_sliceBound, h0, h1, h2, h3, c0, c1, d1, d2]
theorem step_slsl3 {t el : TypeId} {x : Operand} {lo hi mx : Option Operand} {d : Opd} {l h m : Option Opd} {sz : Nat} (ho : o.op = .slice t x lo hi mx) (hu : P.underlying t = some (.slice el)) (hz : (P.info? el).map (·.size) = some sz) (hszp : 0 < sz)
 (hx : okX x d = true) (hlo : okXo lo l = true) (hhi : okXo hi h = true) (hmx : okXo mx m = true) (hhs : h.isSome = true) (hms : m.isSome = true)
 (hs : Sim E st w) (hf : FrRel E N fr a) (hw : (step (.slsl sz d l h m) fr st).wp (ACall P) K) (hc : Cont E st w o a next K) : o.wp P a w next Q := by
 have r1 := okX_rel hx hf
 cases hq : P.info? el with
 | none => simp [hq] at hz
 | some i =>
 have hi2 : i.size = sz := by simpa [hq] using hz
 obtain ⟨h1, rfl⟩ := Option.isSome_iff_exists.1 hhs
 obtain ⟨m1, rfl⟩ := Option.isSome_iff_exists.1 hms
 simp only [step] at hw
 split at hw
 · exact hw.elim
 · split at hw
   · exact hw.elim
   · exact hw.elim
 · rename_i k sz' off len e1
   rw [e1] at r1
   split at hw
   case isFalse => exact hw.elim
   rename_i hz'
   subst hz'
   unfold T.opt at hw
   split at hw
   case h_2 => exact hw.elim
   rename_i h' hh'
   split at hw
   case h_2 => exact hw.elim
   rename_i l' hl'
   obtain ⟨ob, hob, hw⟩ := hw
   dsimp only at hw
   split at hw
   case h_2 => exact hw.elim
   rename_i sz'' es
   split at hw
   case isFalse => exact hw.elim
   rename_i hz'
   subst hz'
   split at hw
   case h_2 => exact hw.elim
   rename_i m' hm'
   obtain ⟨hck, hw⟩ := hw
   simp only [Bool.and_eq_true, decide_eq_true_eq] at hck
   obtain ⟨⟨⟨c1, c2⟩, c3⟩, c4⟩ := hck
   have b1 : ∃ k, hi.map a.eval = some (.int k h') := by
    rcases boundOr_spec (n := len) hhi hf hh' with ⟨_, q, _⟩ | q
    · cases q
    · exact q
   have b3 : ∃ k, mx.map a.eval = some (.int k m') := by
    rcases boundOr_spec (n := 0) (l := m') hmx hf hm' with ⟨_, q, _⟩ | q
    · cases q
    · exact q
   have b2 := boundOr_spec hlo hf hl'
   generalize hv : a.eval x = y at r1
   cases r1 with
   | deep hd => cases hd
   | ms _ _ _ _ ad cap hk hcc hh hbk ha =>
     obtain ⟨hl, cells, ty, fz, q1, q2, q3, q4, q5⟩ := hs.obj k _ hob
     have hfe := flat_len hl
     have hcl : es.length ≤ off + cap := by
      have : es.length * sz'' ≤ (off + cap) * sz'' := by omega
      exact Nat.le_of_mul_le_mul_right this hszp
     have hb := run_bounds3 (P := P) (w := w) len cap (lo := lo.map a.eval) (hi := hi.map a.eval) (mx := mx.map a.eval) (l := l') (h := h') (m := m') b1 b3 (b2.imp (fun q => ⟨q.1, q.2.2⟩) id) c1 c2 c3 (by omega)
     have hrun : (execOp a.eval o).run P w = .ok (.value (.slice (if m'.toNat = l'.toNat then some ad else (some ad).map (·.add (l'.toNat * sz''))) (h'.toNat - l'.toNat) (m'.toNat - l'.toNat))) w := by
      simp [execOp, ho, hv, Instr.sliceAt, Instr.slice, run_underlying hu, hb, sizeOf, typeInfo, hq, hi2]
     exact wp_val hrun (hc.same hs hw (.junk _))
 · exact hw.elim
end
end Go.Eng
/-
The check that an abstract operation stands for the model's, and that it then does.
-/
namespace Go.Eng
open Go
def elOf (P : Program) (t : TypeId) : Option (TypeId × Nat × Nat) :=
 match P.underlying t with
 | some (.slice el) => match P.info? el with
   | some i => some (el, i.size, i.bytes)
   | none => none
 | _ => none
theorem elOf_spec {P : Program} {t el : TypeId} {sz bytes : Nat} (h : elOf P t = some (el, sz, bytes)) : P.underlying t = some (.slice el) ∧ (P.info? el).map (·.size) = some sz := by
 unfold elOf at h
 split at h
 · split at h
   · rename_i hi
     cases h
     exact ⟨‹_›, by rw [hi]; rfl⟩
   · cases h
 · cases h
def blt (op : Op) (b : Builtin) : Option (List Operand × Option TypeId × Option TypeId) :=
 match op with
 | .call c => match c.callee with
   | .builtin b' => if b' = b then some (c.args.toList, c.argTypes[0]?, c.argTypes[1]?) else none
   | _ => none
 | _ => none
theorem blt_spec {op : Op} {b : Builtin} {xs : List Operand} {t0 t1 : Option TypeId} (h : blt op b = some (xs, t0, t1)) : ∃ ts : Array TypeId, op = .call { callee := .builtin b, args := xs.toArray, argTypes := ts } ∧ ts[0]? = t0 ∧ ts[1]? = t1 := by
 unfold blt at h
 split at h
 · rename_i c
   split at h
   · rename_i b' hb
     split at h
     · rename_i hbb
       subst hbb
       simp only [Option.some.injEq, Prod.mk.injEq] at h
       obtain ⟨rfl, h0, h1⟩ := h
       refine ⟨c.argTypes, ?_, h0, h1⟩
       cases c
       simp only at hb
       subst hb
       rfl
     · cases h
   · cases h
 · cases h
def okOp (P : Program) (op : Op) (A : AOp) : Bool :=
 match A with
 | .mv d => match op with
   | .move x => okX x d
   | _ => false
 | .asg d => match op with
   | .assign x => okX x d
   | _ => false
 | .pick c d e => match op with
   | .pick x y z => okX x c && okX y d && okX z e
   | _ => false
 | .alloc _ zero => match op with
   | .alloc t => zeroOk P t zero
   | _ => false
 | .box _ d => match op with
   | .box _ x => okX x d
   | _ => false
 | .bld zero qs => match op with
   | .build t ps => zeroOk P t zero && (match P.underlying t with
     | some (.struct fs) => (fs.toList.all fun f => (P.info? f.type).isSome) && partsOk P fs ps.toList qs
     | some (.array _ e) => (match P.info? e with
       | some i => partsOkA i.size ps.toList qs
       | none => false)
     | _ => false)
   | _ => false
 | .bsl _ sz len zero qs => match op with
   | .buildSlice t l ps => decide (l = len) && (match elOf P t with
     | some (el, _, bytes) => elOk P el sz bytes && zeroOk P el zero && decide (len * sz ≤ 16777216) && partsOkS ps.toList qs
     | none => false)
   | _ => false
 | .load n d => match op with
   | .load t x => okX x d && szOk P t n
   | _ => false
 | .store n d e => match op with
   | .store t x y => okX x d && okX y e && decide ((P.info? t).map (·.size) = some n)
   | _ => false
 | .nilc d => match op with
   | .nilCheck x => okX x d
   | _ => false
 | .bin b d e => match op with
   | .binOp b' _ x y _ => decide (b' = b) && okX x d && okX y e
   | _ => false
 | .eqc row ks neg d e => match op with
   | .binOp b t x y _ => decide (b = if neg then .neq else .eql) && okX x d && okX y e && eqcOk P t row ks
   | _ => false
 | .eqn neg d e => match op with
   | .binOp b t x y _ => decide (b = if neg then .neq else .eql) && okX x d && okX y e && nilOk P t e
   | _ => false
 | .un u d => match op with
   | .unOp u' _ x => decide (u' = u) && okX x d
   | _ => false
 | .cvi k d => match op with
   | .convert s t x => okX x d && (P.underlying s).isSome && (match P.underlying t with
     | some (.int k') => decide (k' = k)
     | _ => false)
   | _ => false
 | .cvs d => match op with
   | .convert s t x => okX x d && (P.underlying s).isSome && (match P.underlying t with
     | some .string => true
     | _ => false)
   | _ => false
 | .s2b _ d => match op with
   | .convert s t x => okX x d && (match P.underlying s, P.underlying t with
     | some .string, some (.slice el) => (match P.underlying el with
       | some (.int .u8) => true
       | _ => false)
     | _, _ => false)
   | _ => false
 | .mkb d => match op with
   | .convert s t x => okX x d && decide (s = t) && (match P.underlying t with
     | some (.slice el) => (match P.underlying el with
       | some (.int .u8) => true
       | _ => false)
     | _ => false)
   | _ => false
 | .b2s d => match op with
   | .convert s t x => okX x d && (match P.underlying s, P.underlying t with
     | some (.slice el), some .string => (match P.underlying el with
       | some (.int .u8) => true
       | _ => false)
     | _, _ => false)
   | _ => false
 | .mkfn f ds => match op with
   | .makeFunc g first cap => (match g with
     | .func f' => decide (f' = f) && decide (first.size = 0) && okXs cap.toList ds
     | _ => false)
   | _ => false
 | .mkmap _ _ => match op with
   | .makeMap _ none => true
   | _ => false
 | .mksl _ sz bytes zero d e => match op with
   | .makeSlice t x y => okX x d && okX y e && (match P.underlying t with
     | some (.slice el) => elOk P el sz bytes && zeroOk P el zero
     | _ => false)
   | _ => false
 | .slstr d l h => match op with
   | .slice t x lo hi none => okX x d && okXo lo l && okXo hi h && (match P.underlying t with
     | some .string => true
     | _ => false)
   | _ => false
 | .slsl sz d l h mx => match op with
   | .slice t x lo hi none => okX x d && okXo lo l && okXo hi h && mx.isNone && decide (0 < sz) && (match elOf P t with
     | some (_, sz', _) => decide (sz' = sz)
     | none => false)
   | .slice t x lo hi (some m) => okX x d && okXo lo l && okXo hi h && okXo (some m) mx && h.isSome && mx.isSome && decide (0 < sz) && (match elOf P t with
     | some (_, sz', _) => decide (sz' = sz)
     | none => false)
   | _ => false
 | .faddr off d => match op with
   | .fieldAddr t x f => okX x d && (match P.underlying t with
     | some (.struct fs) => (match fs[f]? with
       | some fl => decide (fl.offset = off) && (match P.info? fl.type with
         | some i => decide (i.size ≠ 0)
         | none => false)
       | none => false)
     | _ => false)
   | _ => false
 | .fld off n d => match op with
   | .field t x f => okX x d && (match P.underlying t with
     | some (.struct fs) => (match fs[f]? with
       | some fl => decide (fl.offset = off) && szOk P fl.type n
       | none => false)
     | _ => false)
   | _ => false
 | .iasl sz d c => match op with
   | .indexAddr t x y => okX x d && okX y c && (match elOf P t with
     | some (_, sz', _) => decide (sz' = sz)
     | none => false)
   | _ => false
 | .iaar len sz d c => match op with
   | .indexAddr t x y => okX x d && okX y c && (match P.underlying t with
     | some (.array n e) => decide (n = len) && decide ((P.info? e).map (·.size) = some sz)
     | _ => false)
   | _ => false
 | .ixs d c => match op with
   | .index t x y => okX x d && okX y c && (match P.underlying t with
     | some .string => true
     | _ => false)
   | _ => false
 | .ixa len sz n d c => match op with
   | .index t x y => okX x d && okX y c && (match P.underlying t with
     | some (.array m e) => decide (m = len) && decide ((P.info? e).map (·.size) = some sz) && szOk P e n
     | _ => false)
   | _ => false
 | .lkp kd zero d e ok => match op with
   | .lookup t x y ok' => okX x d && okX y e && decide (ok' = ok) && (match P.underlying t with
     | some (.map kt el) => keyTy P kt kd && (match P.info? el with
       | some i => (match i.zero with
         | some z => constOk 4 z zero
         | none => false)
       | none => false)
     | _ => false)
   | _ => false
 | .mupd kd d e c => match op with
   | .mapUpdate t x y v => okX x d && okX y e && okX v c && (match P.underlying t with
     | some (.map kt _) => keyTy P kt kd
     | _ => false)
   | .insert t x y v => okX x d && okX y e && okX v c && (match P.underlying t with
     | some (.map kt _) => keyTy P kt kd
     | _ => false)
   | _ => false
 | .ext d i => match op with
   | .extract x j => okX x d && decide (j = i)
   | _ => false
 | .call f ds => match op with
   | .call c => (match c.callee with
     | .value (.func g) => decide (g = f) && okXs c.args.toList ds
     | _ => false)
   | _ => false
 | .callv g ds => match op with
   | .call c => (match c.callee with
     | .value f => okX f g && okXs c.args.toList ds
     | _ => false)
   | _ => false
 | .lenS d => match blt op .len with
   | some ([x], some t, _) => okX x d && (match P.underlying t with
     | some .string => true
     | _ => false)
   | _ => false
 | .lenL d => match blt op .len with
   | some ([x], some t, _) => okX x d && (match P.underlying t with
     | some (.slice _) => true
     | _ => false)
   | _ => false
 | .lenA n => match blt op .len with
   | some ([_], some t, _) => (match P.underlying t with
     | some (.array m _) => decide (m = n)
     | _ => false)
   | _ => false
 | .lenM d => match blt op .len with
   | some ([x], some t, _) => okX x d && (match P.underlying t with
     | some (.map _ _) => true
     | _ => false)
   | _ => false
 | .mnmx max ds => match blt op (if max then .max else .min) with
   | some (xs, _, _) => okXs xs ds
   | none => false
 | .append _ sz bytes d e => match blt op .append with
   | some ([s, x], some t, t1) => okX s d && okX x e && notInt P t1 && (match P.underlying t with
     | some (.slice el) => elOk P el sz bytes
     | _ => false)
   | _ => false
 | .copy sz d e => match blt op .copy with
   | some ([x, y], some t, _) => okX x d && okX y e && (match elOf P t with
     | some (_, sz', _) => decide (sz' = sz)
     | none => false)
   | _ => false
 | .delete kd d e => match blt op .delete with
   | some ([x, y], some t, _) => okX x d && okX y e && (match P.underlying t with
     | some (.map kt _) => keyTy P kt kd
     | _ => false)
   | _ => false
 | .clear sz zero d => match blt op .clear with
   | some ([x], some t, _) => okX x d && (match elOf P t with
     | some (el, _, bytes) => elOk P el sz bytes && zeroOk P el zero
     | none => false)
   | _ => false
 | .no => true
section
variable {P : Program} {o : Oper} {a : Act} {E : Env} {N : Nat} {st : St} {w : World} {fr : Fr} {next : Act → World → Prop} {Q : Exit → Act → World → Prop} {K : R → Prop}
theorem step_ok {A : AOp} (h : okOp P o.op A = true) (hs : Sim E st w) (hf : FrRel E N fr a) (hw : (step A fr st).wp (ACall P) K) (hc : Cont E st w o a next K) : o.wp P a w next Q := by
 cases A <;> simp only [okOp] at h
 case mv => split at h <;> first | exact step_mv ‹_› h hs hf hw hc | cases h
 case asg => split at h <;> first | exact step_asg ‹_› h hs hf hw hc | cases h
 case pick =>
  split at h
  · simp only [Bool.and_eq_true] at h; exact step_pick ‹_› h.1.1 h.1.2 h.2 hs hf hw hc
  · cases h
 case alloc => split at h <;> first | exact step_alloc ‹_› h hs hw hc | cases h
 case box => split at h <;> first | exact step_box ‹_› h hs hf hw hc | cases h
 case bld =>
  split at h
  · simp only [Bool.and_eq_true] at h
    obtain ⟨h1, h2⟩ := h
    split at h2
    · simp only [Bool.and_eq_true] at h2
      exact step_bld_s ‹_› h1 ‹_› h2.1 h2.2 hs hf hw hc
    · split at h2
      · rename_i hi
        exact step_bld_a ‹_› h1 ‹_› (by rw [hi]; rfl) h2 hs hf hw hc
      · cases h2
    · cases h2
  · cases h
 case bsl =>
  split at h
  · simp only [Bool.and_eq_true, decide_eq_true_eq] at h
    obtain ⟨rfl, h2⟩ := h
    split at h2
    · rename_i he
      simp only [Bool.and_eq_true, decide_eq_true_eq] at h2
      exact step_bsl ‹_› (elOf_spec he).1 h2.1.1.1 h2.1.1.2 h2.1.2 h2.2 hs hf hw hc
    · cases h2
  · cases h
 case load =>
  split at h
  · simp only [Bool.and_eq_true] at h; exact step_load ‹_› h.1 h.2 hs hf hw hc
  · cases h
 case store =>
  split at h
  · simp only [Bool.and_eq_true, decide_eq_true_eq] at h; exact step_store ‹_› h.1.1 h.1.2 h.2 hs hf hw hc
  · cases h
 case nilc => split at h <;> first | exact step_nilc ‹_› h hs hf hw hc | cases h
 case bin =>
  split at h
  · simp only [Bool.and_eq_true, decide_eq_true_eq] at h
    obtain ⟨⟨rfl, h1⟩, h2⟩ := h
    exact step_bin ‹_› h1 h2 hs hf hw hc
  · cases h
 case eqc =>
  split at h
  · simp only [Bool.and_eq_true, decide_eq_true_eq] at h
    exact step_eqc ‹_› h.1.1.1 h.1.1.2 h.1.2 h.2 hs hf hw hc
  · cases h
 case eqn =>
  split at h
  · simp only [Bool.and_eq_true, decide_eq_true_eq] at h
    exact step_eqn ‹_› h.1.1.1 h.1.1.2 h.1.2 h.2 hs hf hw hc
  · cases h
 case un =>
  split at h
  · simp only [Bool.and_eq_true, decide_eq_true_eq] at h
    obtain ⟨rfl, h1⟩ := h
    exact step_un ‹_› h1 hs hf hw hc
  · cases h
 case cvi =>
  split at h
  · simp only [Bool.and_eq_true] at h
    obtain ⟨⟨h1, h2⟩, h3⟩ := h
    split at h3
    · simp only [decide_eq_true_eq] at h3
      subst h3
      exact step_cvi ‹_› h1 h2 ‹_› hs hf hw hc
    · cases h3
  · cases h
 case cvs =>
  split at h
  · simp only [Bool.and_eq_true] at h
    obtain ⟨⟨h1, h2⟩, h3⟩ := h
    split at h3
    · exact step_cvs ‹_› h1 h2 ‹_› hs hf hw hc
    · cases h3
  · cases h
 case s2b =>
  split at h
  · simp only [Bool.and_eq_true] at h
    obtain ⟨h1, h3⟩ := h
    split at h3
    · rename_i hA hB
      split at h3
      · exact step_s2b ‹_› h1 hA hB ‹_› hs hf hw hc
      · cases h3
    · cases h3
  · cases h
 case mkb =>
  split at h
  · simp only [Bool.and_eq_true, decide_eq_true_eq] at h
    obtain ⟨⟨h1, rfl⟩, h3⟩ := h
    split at h3
    · rename_i hA
      split at h3
      · exact step_mkb ‹_› h1 hA ‹_› hs hf hw hc
      · cases h3
    · cases h3
  · cases h
 case b2s =>
  split at h
  · simp only [Bool.and_eq_true] at h
    obtain ⟨h1, h3⟩ := h
    split at h3
    · rename_i hA hB
      split at h3
      · exact step_b2s ‹_› h1 hA ‹_› hB hs hf hw hc
      · cases h3
    · cases h3
  · cases h
 case mkfn =>
  split at h
  · split at h
    · simp only [Bool.and_eq_true, decide_eq_true_eq] at h
      obtain ⟨⟨rfl, h1⟩, h2⟩ := h
      exact step_mkfn ‹_› h1 h2 hs hf hw hc
    · cases h
  · cases h
 case mkmap => split at h <;> first | exact step_mkmap ‹_› hs hw hc | cases h
 case mksl =>
  split at h
  · simp only [Bool.and_eq_true] at h
    obtain ⟨⟨h1, h2⟩, h3⟩ := h
    split at h3
    · simp only [Bool.and_eq_true] at h3
      exact step_mksl ‹_› h1 h2 ‹_› h3.1 h3.2 hs hf hw hc
    · cases h3
  · cases h
 case slstr =>
  split at h
  · simp only [Bool.and_eq_true] at h
    obtain ⟨⟨⟨h1, h2⟩, h3⟩, h4⟩ := h
    split at h4
    · exact step_slstr ‹_› ‹_› h1 h2 h3 hs hf hw hc
    · cases h4
  · cases h
 case slsl =>
  split at h
  · simp only [Bool.and_eq_true, decide_eq_true_eq, Option.isNone_iff_eq_none] at h
    obtain ⟨⟨⟨⟨⟨h1, h2⟩, h3⟩, rfl⟩, h5⟩, h4⟩ := h
    split at h4
    · rename_i he
      simp only [decide_eq_true_eq] at h4
      subst h4
      exact step_slsl ‹_› (elOf_spec he).1 (elOf_spec he).2 h5 h1 h2 h3 hs hf hw hc
    · cases h4
  · simp only [Bool.and_eq_true, decide_eq_true_eq] at h
    obtain ⟨⟨⟨⟨⟨⟨⟨h1, h2⟩, h3⟩, h6⟩, h7⟩, h8⟩, h5⟩, h4⟩ := h
    split at h4
    · rename_i he
      simp only [decide_eq_true_eq] at h4
      subst h4
      exact step_slsl3 ‹_› (elOf_spec he).1 (elOf_spec he).2 h5 h1 h2 h3 h6 h7 h8 hs hf hw hc
    · cases h4
  · cases h
 case faddr =>
  split at h
  · simp only [Bool.and_eq_true] at h
    obtain ⟨h1, h2⟩ := h
    split at h2
    · rename_i hu
      split at h2
      · rename_i hfl
        simp only [Bool.and_eq_true, decide_eq_true_eq] at h2
        obtain ⟨h3, h4⟩ := h2
        split at h4
        · rename_i i hi
          simp only [decide_eq_true_eq] at h4
          exact step_faddr ‹_› h1 hu hfl h3 ⟨i, hi, h4⟩ hs hf hw hc
        · cases h4
      · cases h2
    · cases h2
  · cases h
 case fld =>
  split at h
  · simp only [Bool.and_eq_true] at h
    obtain ⟨h1, h2⟩ := h
    split at h2
    · rename_i hu
      split at h2
      · rename_i hfl
        simp only [Bool.and_eq_true, decide_eq_true_eq] at h2
        exact step_fld ‹_› h1 hu hfl h2.1 h2.2 hs hf hw hc
      · cases h2
    · cases h2
  · cases h
 case iasl =>
  split at h
  · simp only [Bool.and_eq_true] at h
    obtain ⟨⟨h1, h2⟩, h3⟩ := h
    split at h3
    · rename_i he
      simp only [decide_eq_true_eq] at h3
      subst h3
      exact step_iasl ‹_› h1 h2 (elOf_spec he).1 (elOf_spec he).2 hs hf hw hc
    · cases h3
  · cases h
 case iaar =>
  split at h
  · simp only [Bool.and_eq_true] at h
    obtain ⟨⟨h1, h2⟩, h3⟩ := h
    split at h3
    · simp only [Bool.and_eq_true, decide_eq_true_eq] at h3
      obtain ⟨rfl, h4⟩ := h3
      exact step_iaar ‹_› h1 h2 ‹_› h4 hs hf hw hc
    · cases h3
  · cases h
 case ixs =>
  split at h
  · simp only [Bool.and_eq_true] at h
    obtain ⟨⟨h1, h2⟩, h3⟩ := h
    split at h3
    · exact step_ixs ‹_› h1 h2 ‹_› hs hf hw hc
    · cases h3
  · cases h
 case ixa =>
  split at h
  · simp only [Bool.and_eq_true] at h
    obtain ⟨⟨h1, h2⟩, h3⟩ := h
    split at h3
    · simp only [Bool.and_eq_true, decide_eq_true_eq] at h3
      obtain ⟨⟨rfl, h4⟩, h5⟩ := h3
      exact step_ixa ‹_› h1 h2 ‹_› h4 h5 hs hf hw hc
    · cases h3
  · cases h
 case lkp =>
  split at h
  · simp only [Bool.and_eq_true, decide_eq_true_eq] at h
    obtain ⟨⟨⟨h1, h2⟩, rfl⟩, h3⟩ := h
    split at h3
    · rename_i hu
      simp only [Bool.and_eq_true] at h3
      obtain ⟨h4, h5⟩ := h3
      split at h5
      · rename_i hi
        split at h5
        · rename_i hz
          exact step_lkp ‹_› hu h4 hi hz h5 h1 h2 hs hf hw hc
        · cases h5
      · cases h5
    · cases h3
  · cases h
 case mupd =>
  split at h
  · simp only [Bool.and_eq_true] at h
    obtain ⟨⟨⟨h1, h2⟩, h3⟩, h4⟩ := h
    split at h4
    · exact step_mupd (.inl ‹_›) ‹_› h4 h1 h2 h3 hs hf hw hc
    · cases h4
  · simp only [Bool.and_eq_true] at h
    obtain ⟨⟨⟨h1, h2⟩, h3⟩, h4⟩ := h
    split at h4
    · exact step_mupd (.inr ‹_›) ‹_› h4 h1 h2 h3 hs hf hw hc
    · cases h4
  · cases h
 case ext =>
  split at h
  · simp only [Bool.and_eq_true, decide_eq_true_eq] at h
    obtain ⟨h1, rfl⟩ := h
    exact step_ext ‹_› h1 hs hf hw hc
  · cases h
 case call =>
  split at h
  · rename_i c heq
    split at h
    · rename_i g hc'
      simp only [Bool.and_eq_true, decide_eq_true_eq] at h
      obtain ⟨rfl, h2⟩ := h
      cases c
      simp only at hc' h2
      subst hc'
      exact step_call heq h2 hs hf hw hc
    · cases h
  · cases h
 case callv =>
  split at h
  · rename_i c heq
    split at h
    · rename_i g hc'
      simp only [Bool.and_eq_true] at h
      cases c
      simp only at hc' h
      subst hc'
      exact step_callv heq h.1 h.2 hs hf hw hc
    · cases h
  · cases h
 case lenS =>
  split at h
  · rename_i hb
    obtain ⟨ts, h1, h2, _⟩ := blt_spec hb
    simp only [Bool.and_eq_true] at h
    obtain ⟨h3, h4⟩ := h
    split at h4
    · exact step_lenS h1 h2 ‹_› h3 hs hf hw hc
    · cases h4
  · cases h
 case lenL =>
  split at h
  · rename_i hb
    obtain ⟨ts, h1, h2, _⟩ := blt_spec hb
    simp only [Bool.and_eq_true] at h
    obtain ⟨h3, h4⟩ := h
    split at h4
    · exact step_lenL h1 h2 ‹_› h3 hs hf hw hc
    · cases h4
  · cases h
 case lenA =>
  split at h
  · rename_i hb
    obtain ⟨ts, h1, h2, _⟩ := blt_spec hb
    split at h
    · simp only [decide_eq_true_eq] at h
      subst h
      exact step_lenA h1 h2 ‹_› hs hw hc
    · cases h
  · cases h
 case lenM =>
  split at h
  · rename_i hb
    obtain ⟨ts, h1, h2, _⟩ := blt_spec hb
    simp only [Bool.and_eq_true] at h
    obtain ⟨h3, h4⟩ := h
    split at h4
    · exact step_lenM h1 h2 ‹_› h3 hs hf hw hc
    · cases h4
  · cases h
 case mnmx =>
  split at h
  · rename_i hb
    obtain ⟨ts, h1, h2, _⟩ := blt_spec hb
    exact step_mnmx h1 (by simpa using h) hs hf hw hc
  · cases h
 case append =>
  split at h
  · rename_i hb
    obtain ⟨ts, h1, h2, h2'⟩ := blt_spec hb
    simp only [Bool.and_eq_true] at h
    obtain ⟨⟨⟨h3, h4⟩, h5⟩, h6⟩ := h
    split at h6
    · exact step_append h1 h2 ‹_› h6 (by rw [h2']; exact h5) h3 h4 hs hf hw hc
    · cases h6
  · cases h
 case copy =>
  split at h
  · rename_i hb
    obtain ⟨ts, h1, h2, h2'⟩ := blt_spec hb
    simp only [Bool.and_eq_true] at h
    obtain ⟨⟨h3, h4⟩, h5⟩ := h
    split at h5
    · rename_i he
      simp only [decide_eq_true_eq] at h5
      subst h5
      exact step_copy h1 h2 (elOf_spec he).1 (elOf_spec he).2 h3 h4 hs hf hw hc
    · cases h5
  · cases h
 case delete =>
  split at h
  · rename_i hb
    obtain ⟨ts, h1, h2, h2'⟩ := blt_spec hb
    simp only [Bool.and_eq_true] at h
    obtain ⟨⟨h3, h4⟩, h5⟩ := h
    split at h5
    · exact step_delete h1 h2 ‹_› h5 h3 h4 hs hf hw hc
    · cases h5
  · cases h
 case clear =>
  split at h
  · rename_i hb
    obtain ⟨ts, h1, h2, h2'⟩ := blt_spec hb
    simp only [Bool.and_eq_true] at h
    obtain ⟨h3, h5⟩ := h
    split at h5
    · rename_i he
      simp only [Bool.and_eq_true] at h5
      exact step_clear h1 h2 (elOf_spec he).1 h5.1 h5.2 h3 hs hf hw hc
    · cases h5
  · cases h
 case no => exact hw.elim
end
end Go.Eng
/-
Regions in the text's order: what the abstract run promises.
-/
namespace Go.Eng
open Go
theorem memNat_iff {n : Nat} : ∀ {l : List Nat}, memNat n l = true ↔ n ∈ l
 | [] => by simp [memNat]
 | k :: r => by
   simp only [memNat, List.mem_cons]
   cases h : Nat.beq n k with
   | true => have := Nat.eq_of_beq_eq_true h; simp [this]
   | false =>
     have : n ≠ k := Nat.ne_of_beq_eq_false h
     simp [this, memNat_iff]
theorem V.force_eq {α : Type} (v : V) (k : V → α) : v.force k = k v := by cases v <;> rfl
def Fr.cutL (fr : Fr) (ks : List Nat) : Fr := fr.filter fun q => !memNat q.1 ks
theorem Fr.cut_eq {α : Type} (ks : List Nat) : ∀ (fr : Fr) (k : Fr → α), fr.cut ks k = k (fr.cutL ks)
 | [], k => rfl
 | (n, v) :: r, k => by
  simp only [Fr.cut]
  cases h : memNat n ks with
  | true => simp only; rw [Fr.cut_eq ks r]; simp [Fr.cutL, h]
  | false => simp only; rw [Fr.cut_eq ks r]; simp [Fr.cutL, h]
theorem Fr.get_cutL (ks : List Nat) (t : Nat) : ∀ fr : Fr, (fr.cutL ks).get t = if memNat t ks then .junk else fr.get t
 | [] => by simp [Fr.cutL, Fr.get]
 | (n, v) :: r => by
  have ih := Fr.get_cutL ks t r
  simp only [Fr.cutL] at ih ⊢
  by_cases hn : n = t
  · subst hn
    cases h : memNat n ks with
    | true => rw [List.filter_cons_of_neg (by simp [h])]; rw [ih, h]; rfl
    | false => rw [List.filter_cons_of_pos (by simp [h])]; simp [Fr.get]
  · by_cases h : memNat n ks = true
    · rw [List.filter_cons_of_neg (by simp [h]), ih]
      simp [Fr.get, hn]
    · rw [List.filter_cons_of_pos (by simp [h])]
      simp only [Fr.get, if_neg hn]
      exact ih
def Fr.next (fr : Fr) (dst : Option Nat) (v : V) (kill : List Nat) : Fr :=
 match dst with
 | some d => match kill with
   | [] => (d, v) :: fr
   | x :: ks => if memNat d (x :: ks) then fr.cutL (d :: x :: ks) else (d, v) :: fr.cutL (d :: x :: ks)
 | none => match kill with
   | [] => fr
   | x :: ks => fr.cutL (x :: ks)
theorem Fr.after_eq {α : Type} (fr : Fr) (dst : Option Nat) (v : V) (kill : List Nat) (k : Fr → α) : fr.after dst v kill k = k (fr.next dst v kill) := by
 unfold Fr.after Fr.next
 cases dst with
 | none =>
   cases kill with
   | nil => rfl
   | cons x ks => simp only; rw [Fr.cut_eq]
 | some d =>
   cases kill with
   | nil => simp only; rw [V.force_eq]
   | cons x ks =>
     simp only
     cases h : memNat d (x :: ks) with
     | true => simp only; rw [Fr.cut_eq]; simp
     | false => simp only; rw [Fr.cut_eq, V.force_eq]; simp
theorem Fr.get_next (fr : Fr) (dst : Option Nat) (v : V) (kill : List Nat) (t : Nat) : (fr.next dst v kill).get t = if memNat t kill then .junk else if dst = some t then v else fr.get t := by
 cases dst with
 | none =>
   cases kill with
   | nil => simp [Fr.next, memNat]
   | cons x ks => simp [Fr.next, Fr.get_cutL]
 | some d =>
   cases kill with
   | nil =>
     simp only [Fr.next, Fr.get, memNat, Bool.false_eq_true, if_false, Option.some.injEq]
   | cons x ks =>
     simp only [Fr.next, Option.some.injEq]
     by_cases hm : memNat d (x :: ks) = true
     · rw [if_pos hm, Fr.get_cutL]
       by_cases ht : memNat t (x :: ks) = true
       · rw [if_pos ht, if_pos (by rw [memNat_iff] at ht ⊢; exact .tail _ ht)]
       · have hne : ¬ d = t := fun e => ht (e ▸ hm)
         rw [if_neg ht, if_neg hne, if_neg]
         rw [memNat_iff] at ht ⊢
         intro hmm
         rcases List.mem_cons.1 hmm with rfl | hmm
         · exact hne rfl
         · exact ht hmm
     · rw [if_neg hm]
       simp only [Fr.get]
       by_cases hd : d = t
       · subst hd; rw [if_pos rfl, if_neg hm, if_pos rfl]
       · rw [if_neg hd, if_neg hd, Fr.get_cutL]
         by_cases ht : memNat t (x :: ks) = true
         · rw [if_pos ht, if_pos (by rw [memNat_iff] at ht ⊢; exact .tail _ ht)]
         · rw [if_neg ht, if_neg]
           rw [memNat_iff] at ht ⊢
           intro hmm
           rcases List.mem_cons.1 hmm with rfl | hmm
           · exact hd rfl
           · exact ht hmm
theorem FrRel.next {E : Env} {N : Nat} {fr : Fr} {a : Act} (h : FrRel E N fr a) {dst : Option Nat} (hd : ∀ d, dst = some d → d < N) {v : V} {x : Value} (hr : Rel E v x) (kill : List Nat) : FrRel E N (fr.next dst v kill) (a.put dst x) := by
 refine ⟨by cases dst <;> simp [Act.put, h.size], fun t => ?_⟩
 rw [Fr.get_next]
 split
 · exact .junk _
 · split
   · rename_i ht
     subst ht
     have hlt : t < a.tmps.size := by rw [h.size]; exact hd t rfl
     simp only [Act.put, Array.getD_eq_getD_getElem?]
     simp [hlt]
     exact hr
   · rename_i ht
     cases dst with
     | none => exact h.rel t
     | some d =>
       have hne : d ≠ t := fun e => ht (by rw [e])
       have : (a.put (some d) x).tmps.getD t undef = a.tmps.getD t undef := by
        simp only [Act.put, Array.getD_eq_getD_getElem?]
        rw [Array.getElem?_setIfInBounds_ne hne]
       rw [this]
       exact h.rel t
theorem put_defers (a : Act) (dst : Option Nat) (x : Value) : (a.put dst x).defers = a.defers := by cases dst <;> rfl
def guardOk (ops : Array Oper) : Option (Nat × Bool) → Option (Nat × Bool) → Bool
 | none, none => true
 | some (j, w), some (t, w') => decide (w = w') && (match ops[j]? with
   | some o => decide (o.dst = some t)
   | none => false)
 | _, _ => false
def dstOk (N : Nat) : Option Nat → Bool
 | some d => decide (d < N)
 | none => true
def okReg (P : Program) (N : Nat) (ops : Array Oper) : List Oper → List AOper → Bool
 | [], [] => true
 | o :: l, A :: as => okOp P o.op A.op && decide (A.dst = o.dst) && dstOk N o.dst && guardOk ops o.guard A.guard && okReg P N ops l as
 | _, _ => false
theorem FrRel.same {E : Env} {N : Nat} {fr : Fr} {a : Act} (h : FrRel E N fr a) {t : Nat} {v : V} (hv : fr.get t = v) : FrRel E N ((t, v) :: fr.cutL [t]) a := by
 refine ⟨h.size, fun t' => ?_⟩
 simp only [Fr.get]
 by_cases ht : t = t'
 · subst ht; rw [if_pos rfl, ← hv]; exact h.rel t
 · rw [if_neg ht, Fr.get_cutL]
   split
   · exact .junk _
   · exact h.rel t'
section
variable {P : Program} {N : Nat} {ops : Array Oper} {Q : Exit → Act → World → Prop} {K : Fr × St → Prop}
theorem yielded_b {E : Env} {fr : Fr} {a : Act} (hf : FrRel E N fr a) {j t : Nat} {o : Oper} (ho : ops[j]? = some o) (hd : o.dst = some t) {b : Bool} (hv : fr.get t = .b b) : yielded ops a.tmps j = some b := by
 have h := hf.rel t
 rw [hv] at h
 have h := h.bool
 simp only [yielded, ho, Option.bind_some, hd]
 simp only [Array.getD_eq_getD_getElem?] at h
 cases hq : a.tmps[t]? with
 | none => rw [hq] at h; simp [undef] at h
 | some x => rw [hq] at h; simp at h; rw [h]
theorem yielded_t {E : Env} {fr : Fr} {a : Act} (hf : FrRel E N fr a) {j t : Nat} {o : Oper} (ho : ops[j]? = some o) (hd : o.dst = some t) {cs : List V} (hv : fr.get t = .tup cs) : yielded ops a.tmps j = none := by
 have h := hf.rel t
 rw [hv] at h
 simp only [yielded, ho, Option.bind_some, hd]
 simp only [Array.getD_eq_getD_getElem?] at h
 cases hq : a.tmps[t]? with
 | none => rfl
 | some x =>
   rw [hq] at h
   simp only [Option.getD_some] at h
   cases h with
   | deep hd => cases hd
   | tup => rfl
theorem ops_then (more : List Nat) : ∀ (as : List AOper) (l : List Oper) (i : Nat), okReg P N ops l as = true → (∀ k o, l[k]? = some o → ops[i + k]? = some o) →
 ∀ {E : Env} {st : St} {w : World} {fr : Fr} {a : Act}, Sim E st w → FrRel E N fr a → (runOps as fr st).wp (ACall P) K →
  (∀ fr' st' E' a' w', K (fr', st') → Sim E' st' w' → Ext E st w E' st' w' → FrRel E' N fr' a' → a'.defers = a.defers → wpOps P ops Q more a' w') →
  wpOps P ops Q (List.range' i l.length ++ more) a w
 | [], [], i, _, _, E, st, w, fr, a, hs, hf, hw, hQ => hQ fr st E a w hw hs (.refl E st w) hf rfl
 | [], _ :: _, i, hk, _, E, st, w, fr, a, hs, hf, hw, hQ => by simp [okReg] at hk
 | _ :: _, [], i, hk, _, E, st, w, fr, a, hs, hf, hw, hQ => by simp [okReg] at hk
 | A :: as, o :: l, i, hk, hops, E, st, w, fr, a, hs, hf, hw, hQ => by
   simp only [okReg, Bool.and_eq_true, decide_eq_true_eq] at hk
   obtain ⟨⟨⟨⟨k1, k2⟩, k3⟩, k4⟩, k5⟩ := hk
   have ho : ops[i]? = some o := hops 0 o rfl
   have hdn : ∀ d, o.dst = some d → d < N := fun d hd => by rw [hd] at k3; simpa [dstOk] using k3
   have hops' : ∀ k o', l[k]? = some o' → ops[i + 1 + k]? = some o' := fun k o' h => by
    have := hops (k + 1) o' (by simpa using h)
    rwa [show i + 1 + k = i + (k + 1) by omega]
   -- the rest, from whatever state the operation leaves
   have rest : ∀ {E' : Env} {st' : St} {w' : World} {fr' : Fr} {a' : Act}, Sim E' st' w' → Ext E st w E' st' w' → FrRel E' N fr' a' → a'.defers = a.defers → (runOps as fr' st').wp (ACall P) K → wpOps P ops Q (List.range' (i + 1) l.length ++ more) a' w' := by
    intro E' st' w' fr' a' s1 s2 s3 s4 hw'
    exact ops_then more as l (i + 1) k5 hops' s1 s3 hw' (fun f2 st2 E2 a2 w2 h1 h2 h3 h4 h5 => hQ f2 st2 E2 a2 w2 h1 h2 (s2.trans h3) h4 (h5.trans s4))
   -- the operation is carried out
   have doit : ∀ {fr0 : Fr}, FrRel E N fr0 a → ((step A.op fr0 st).bind fun x => match x with
    | (v, st) => fr0.after A.dst v A.kill fun fr => runOps as fr st).wp (ACall P) K → o.wp P a w (wpOps P ops Q (List.range' (i + 1) l.length ++ more)) Q := by
    intro fr0 hf0 hw0
    rw [T.wp_bind] at hw0
    refine step_ok k1 hs hf0 hw0 ?_
    intro v st' E' w' x hkk s1 s2 hr
    dsimp only at hkk
    rw [Fr.after_eq] at hkk
    refine rest s1 s2 (FrRel.next (hf0.mono s2.le) hdn hr A.kill) (put_defers _ _ _) ?_
    rw [← k2]; exact hkk
   have skip : ∀ {fr0 : Fr}, FrRel E N fr0 a → (fr0.after A.dst (.tup []) A.kill fun fr => runOps as fr st).wp (ACall P) K → wpOps P ops Q (List.range' (i + 1) l.length ++ more) (a.put o.dst undef) w := by
    intro fr0 hf0 hw0
    rw [Fr.after_eq] at hw0
    refine rest hs (.refl E st w) (FrRel.next hf0 hdn undef_rel A.kill) (put_defers _ _ _) ?_
    rw [← k2]; exact hw0
   rw [List.length_cons, List.range'_succ, List.cons_append]
   simp only [wpOps, ho]
   simp only [runOps] at hw
   split at hw
   · rename_i hgA
     have hg : o.guard = none := by
      rw [hgA] at k4
      cases hg : o.guard with
      | none => rfl
      | some q => rw [hg] at k4; cases q; simp [guardOk] at k4
     rw [if_pos (by simp [Region.wanted, hg])]
     exact .inl (doit hf hw)
   · rename_i t want hgA
     rw [hgA] at k4
     cases hg : o.guard with
     | none => rw [hg] at k4; simp [guardOk] at k4
     | some q =>
     obtain ⟨j, want'⟩ := q
     rw [hg] at k4
     simp only [guardOk, Bool.and_eq_true, decide_eq_true_eq] at k4
     obtain ⟨rfl, k4⟩ := k4
     split at k4
     case h_2 => cases k4
     rename_i oj hoj
     simp only [decide_eq_true_eq] at k4
     split at hw
     · rename_i x hx
       have hy := yielded_b hf hoj k4 hx
       have hf0 := hf.same hx
       split at hw
       · cases x with
         | true =>
           have hw := hw.1 rfl
           rw [Fr.cut_eq] at hw
           rw [if_pos (by simp [Region.wanted, hg, hy])]
           exact .inl (doit hf0 hw)
         | false =>
           have hw := hw.2 rfl
           rw [Fr.cut_eq] at hw
           rw [if_neg (by simp [Region.wanted, hg, hy])]
           exact skip hf0 hw
       · cases x with
         | true =>
           have hw := hw.1 rfl
           rw [Fr.cut_eq] at hw
           rw [if_neg (by simp [Region.wanted, hg, hy])]
           exact skip hf0 hw
         | false =>
           have hw := hw.2 rfl
           rw [Fr.cut_eq] at hw
           rw [if_pos (by simp [Region.wanted, hg, hy])]
           exact .inl (doit hf0 hw)
     · rename_i cs hx
       have hy := yielded_t hf hoj k4 hx
       rw [if_neg (by simp [Region.wanted, hg, hy])]
       exact skip hf hw
     · exact hw.elim
theorem ops_ok (as : List AOper) (l : List Oper) (i : Nat) (hk : okReg P N ops l as = true) (ho : ∀ k o, l[k]? = some o → ops[i + k]? = some o)
 {E : Env} {st : St} {w : World} {fr : Fr} {a : Act} (hs : Sim E st w) (hf : FrRel E N fr a) (hw : (runOps as fr st).wp (ACall P) K)
  (hQ : ∀ fr' st' E' a' w', K (fr', st') → Sim E' st' w' → Ext E st w E' st' w' → FrRel E' N fr' a' → a'.defers = a.defers → Q .normal a' w') :
  wpOps P ops Q (List.range' i l.length) a w := by
 have := ops_then [] as l i hk ho hs hf hw hQ
 rwa [List.append_nil] at this
end
end Go.Eng
/-
One row put into the middle of a row of rows: in its place, or in a new block.
-/
namespace Go.Eng
open Go
section
variable {P : Program} {E : Env} {st : St} {w w' : World}
theorem Sim.rowCells (hs : Sim E st w) {k : Key} {sz : Nat} {es : List (List V)} (hob : st.get k = some (.arr sz es)) :
 ∃ cells t fz xs, w.heap[(E.μ k).blk]? = some (.cells cells t fz) ∧ FzOk sz fz cells.size ∧ (E.μ k).base + es.length * sz ≤ (E.μ k).fin ∧ (E.μ k).fin ≤ cells.size ∧ (∀ e ∈ es, e.length = sz) ∧
  xs.length = es.length * sz ∧ (∀ j v, xs[j]? = some v → cells[(E.μ k).base + j]? = some v) ∧ InRow (E.at k) es.flatten xs ∧ ∀ x ∈ xs, x.oneCell' = true := by
 obtain ⟨hl, cells, t, fz, r1, r2, r3, r4, r5⟩ := hs.obj k _ hob
 have hf := flat_len hl
 have hca : CellsAt (E.at k) w (E.μ k).blk (E.μ k).base es.flatten := fun j v hj => by
  obtain ⟨x, hx, a, b⟩ := r5 j v hj
  exact ⟨x, by simp [cellIn, r1, hx], a, b⟩
 obtain ⟨xs, x1, x2, x3, x4⟩ := hca.list
 refine ⟨cells, t, fz, xs, r1, r2, by omega, r4, hl, by omega, fun j v hj => ?_, fun j v hj => ?_, x4⟩
 · have := x2 j v hj
   rw [cell?_eq] at this
   simpa [cellIn, r1] using this
 · obtain ⟨x, hx, hr⟩ := x3.get hj
   have hx' : xs[j]? = some x := by simpa using hx
   exact ⟨x, hx', hr, x4 x (List.mem_of_getElem? hx')⟩
end
end Go.Eng
