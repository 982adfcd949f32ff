/-
Arguments of plain data: what is read of them as abstract values.
-/
import Derived.Test.YtfobkjdmohaakaaGreatEngFrame
import Derived.ProofKit
import Derived.OpenShut
import Derived.Deep.Slices
import Derived.Carry
namespace Go.Eng
open Go

/-- The shape of a cell. -/
inductive Sh where
  | b
  | i (k : IntKind)
  | s
  | sl (row : List Sh)
mutual
def Sh.is : Sh → V → Prop
  | .b, v => ∃ x, v = .b x
  | .i k, v => ∃ n, v = .i k n ∧ k.min ≤ n ∧ n ≤ k.max
  | .s, v => ∃ l, v = .s l ∧ l.length ≤ 9223372036854775807
  | .sl row, v => ∃ es, v = .sl none row.length es ∧ es.length ≤ 9223372036854775807 ∧ ∀ e ∈ es, Sh.isL row e
def Sh.isL : List Sh → List V → Prop
  | [], [] => True
  | a :: r, v :: q => a.is v ∧ Sh.isL r q
  | _, _ => False
end
def shFields (P : Program) (rec : TypeId → Option (List Sh)) : List Field → List Sh → Option (List Sh)
  | [], acc => some acc
  | f :: r, acc => match rec f.type with
    | some s => if f.offset = acc.length ∧ s.length = P.cellsOf f.type then shFields P rec r (acc ++ s) else none
    | none => none
def shTimes (r : List Sh) : Nat → List Sh
  | 0 => []
  | n + 1 => r ++ shTimes r n
/-- The shapes of a type's cells. -/
def shOf (P : Program) : Nat → TypeId → Option (List Sh)
  | 0, _ => none
  | m + 1, t => match P.underlying t with
    | some .bool => some [.b]
    | some (.int k) => some [.i k]
    | some .string => some [.s]
    | some (.slice e) => match shOf P m e with
      | some r => if r.length = P.cellsOf e ∧ 0 < r.length then some [.sl r] else none
      | none => none
    | some (.struct fs) => match shFields P (shOf P m) fs.toList [] with
      | some r => if r.length = P.cellsOf t then some r else none
      | none => none
    | some (.array n e) => match shOf P m e with
      | some r => if r.length = P.cellsOf e ∧ n * r.length = P.cellsOf t then some (shTimes r n) else none
      | none => none
    | _ => none

theorem isL_length : ∀ {r : List Sh} {q : List V}, Sh.isL r q → q.length = r.length
  | [], [], _ => rfl
  | [], _ :: _, h => by simp [Sh.isL] at h
  | _ :: _, [], h => by simp [Sh.isL] at h
  | _ :: r, _ :: q, h => by simp only [Sh.isL] at h; simp [isL_length h.2]
theorem isL_append : ∀ {r : List Sh} {q : List V} {r' : List Sh} {q' : List V}, Sh.isL r q → Sh.isL r' q' → Sh.isL (r ++ r') (q ++ q')
  | [], [], _, _, _, h => h
  | [], _ :: _, _, _, h, _ => by simp [Sh.isL] at h
  | _ :: _, [], _, _, h, _ => by simp [Sh.isL] at h
  | _ :: r, _ :: q, _, _, h, h' => by simp only [Sh.isL, List.cons_append] at h ⊢; exact ⟨h.1, isL_append h.2 h'⟩
theorem shTimes_length (r : List Sh) : ∀ n, (shTimes r n).length = n * r.length
  | 0 => by simp [shTimes]
  | n + 1 => by simp [shTimes, shTimes_length r n, Nat.add_mul, Nat.add_comm]

/-- Cell by cell, of what is never written. -/
def RowD (I : Imm) (row : List V) (cs : List Value) : Prop := row.length = cs.length ∧ ∀ (j : Nat) (v : V) (x : Value), row[j]? = some v → cs[j]? = some x → RelD I v x
theorem RowD.append {I : Imm} {r r' : List V} {c c' : List Value} (h : RowD I r c) (h' : RowD I r' c') : RowD I (r ++ r') (c ++ c') := by
  refine ⟨by simp [h.1, h'.1], fun j v x hj hx => ?_⟩
  rw [List.getElem?_append] at hj hx
  rw [← h.1] at hx
  split at hj
  · rename_i hlt
    rw [if_pos hlt] at hx
    exact h.2 j v x hj hx
  · rename_i hlt
    rw [if_neg hlt] at hx
    exact h'.2 _ v x hj hx
theorem RowD.one {I : Imm} {v : V} {x : Value} (h : RelD I v x) : RowD I [v] [x] := ⟨rfl, fun j v' x' hj hx => by
  cases j with
  | zero => simp at hj hx; subst hj; subst hx; exact h
  | succ j => simp at hj⟩

theorem wf_range {k : IntKind} {n : Int} (h : (Lit.int k n).wf = true) : k.min ≤ n ∧ n ≤ k.max := by
  simpa [Lit.wf, IntKind.has] using h

section
variable {H : Type} {enc : TypeId × Value → H} {P : Program} {W : World}
/-- Of every such reading there is a row of abstract values. -/
def ReadsAs (P : Program) (W : World) (enc : TypeId × Value → H) (fuel m : Nat) : Prop := ∀ (t : TypeId) (cs : List Value) (x : DataW H × List MemPlace) (r : List Sh),
  DataW.trod enc P W 0 (fun _ => true) true fuel t cs = some x → shOf P m t = some r → ∃ row, Sh.isL r row ∧ RowD (cellIn W) row cs

theorem fields_row {m n : Nat} (ih : ReadsAs P W enc n m) {cs : List Value} : ∀ (fs : List Field) (acc r : List Sh) (row : List V) , shFields P (shOf P m) fs acc = some r → Sh.isL acc row → RowD (cellIn W) row (cs.take acc.length) → acc.length ≤ cs.length →
    (∀ f ∈ fs, ∃ x, DataW.trod enc P W 0 (fun _ => true) true n f.type ((cs.drop f.offset).take (P.cellsOf f.type)) = some x) → r.length = cs.length → ∃ row', Sh.isL r row' ∧ RowD (cellIn W) row' cs
  | [], acc, r, row, h, h1, h2, h3, h4, h5 => by
    simp only [shFields, Option.some.injEq] at h
    subst h
    rw [h5, List.take_length] at h2
    exact ⟨row, h1, h2⟩
  | f :: fs, acc, r, row, h, h1, h2, h3, h4, h5 => by
    simp only [shFields] at h
    split at h
    case h_2 => cases h
    rename_i s hs
    split at h
    case isFalse => cases h
    rename_i hc
    obtain ⟨x, hx⟩ := h4 f (by simp)
    obtain ⟨row2, g1, g2⟩ := ih _ _ _ _ hx hs
    have hl : row2.length = s.length := isL_length g1
    have hl2 := g2.1
    simp only [List.length_take, List.length_drop] at hl2
    have e : cs.take (acc ++ s).length = cs.take acc.length ++ (cs.drop f.offset).take (P.cellsOf f.type) := by
      rw [List.length_append, List.take_add, hc.1, hc.2]
    refine fields_row ih fs (acc ++ s) r (row ++ row2) h (isL_append h1 g1) ?_ ?_ (fun f hf => h4 f (by simp [hf])) h5
    · rw [e]; exact h2.append g2
    · rw [List.length_append]; omega

theorem times_row {m n : Nat} {e : TypeId} {r : List Sh} (ih : ReadsAs P W enc n m) (he : shOf P m e = some r) (hr : r.length = P.cellsOf e) : ∀ (k : Nat) (cs : List Value), cs.length = k * r.length →
    (∀ i, i < k → ∃ x, DataW.trod enc P W 0 (fun _ => true) true n e ((cs.drop (i * P.cellsOf e)).take (P.cellsOf e)) = some x) → ∃ row, Sh.isL (shTimes r k) row ∧ RowD (cellIn W) row cs
  | 0, cs, h1, _ => by
    have : cs = [] := by simpa using h1
    subst this
    exact ⟨[], by simp [shTimes, Sh.isL], rfl, fun j v x hj => by simp at hj⟩
  | k + 1, cs, h1, h2 => by
    obtain ⟨x, hx⟩ := h2 0 (by omega)
    obtain ⟨row1, a1, a2⟩ := ih _ _ _ _ hx he
    obtain ⟨row2, b1, b2⟩ := times_row ih he hr k (cs.drop r.length) (by rw [List.length_drop, h1, Nat.add_mul]; omega) (fun i hi => by
      obtain ⟨y, hy⟩ := h2 (i + 1) (by omega)
      refine ⟨y, ?_⟩
      rw [List.drop_drop, hr, show P.cellsOf e + i * P.cellsOf e = (i + 1) * P.cellsOf e by rw [Nat.add_mul]; omega]
      exact hy)
    refine ⟨row1 ++ row2, isL_append a1 b1, ?_⟩
    have := a2.append b2
    rw [Nat.zero_mul, List.drop_zero, ← hr, List.take_append_drop] at this
    exact this

theorem reads_as : ∀ (fuel m : Nat), ReadsAs P W enc fuel m
  | 0, _, t, cs, x, r, h, _ => by simp [DataW.trod] at h
  | _ + 1, 0, t, cs, x, r, _, h => by simp [shOf] at h
  | n + 1, m + 1, t, cs, x, r, h, hs => by
    simp only [shOf] at hs
    split at hs
    · rename_i ht
      cases hs
      obtain ⟨b, rfl, _⟩ := DataW.trod_bool ht h
      exact ⟨[.b b], by simp [Sh.isL, Sh.is], .one (.b b)⟩
    · rename_i k ht
      cases hs
      obtain ⟨q, rfl, _, hw⟩ := DataW.trod_int ht h
      exact ⟨[.i k q], by simp [Sh.isL, Sh.is, wf_range hw], .one (.i k q)⟩
    · rename_i ht
      cases hs
      obtain ⟨s, rfl, _, hw⟩ := DataW.trod_string ht h
      refine ⟨[.s s.data.toList], ?_, .one (.s s.data.toList)⟩
      simp only [Sh.isL, Sh.is, and_true]
      refine ⟨_, rfl, ?_⟩
      have : s.size ≤ 2 ^ 63 - 1 := hw
      have e : s.data.toList.length = s.size := by simp
      omega
    · rename_i e ht
      split at hs
      case h_2 => cases hs
      rename_i r' hr'
      split at hs
      case isFalse => cases hs
      rename_i hsz
      cases hs
      rcases Go.Deep.open_slice ht h with ⟨rfl, _⟩ | ⟨a, len, cap, q, n', D, Pl, rfl, _, hlc, hcm, hq, _, hel⟩
      · exact ⟨[.sl none r'.length []], by simp [Sh.isL, Sh.is], .one (.slNil _)⟩
      · obtain ⟨hsz, hpos⟩ := hsz
        have hq' : q = cap := by simpa using hq
        subst hq'
        have hm : q ≤ 2 ^ 63 - 1 := hcm
        obtain ⟨blk, off, spot⟩ := a
        by_cases hq0 : q = 0
        · subst hq0
          obtain rfl : len = 0 := by omega
          exact ⟨[.sl none r'.length []], by simp [Sh.isL, Sh.is], .one (.slEmpty _ _)⟩
        · have hspot : spot = none := by
            obtain ⟨cs', hc, _⟩ := hel 0 (by omega)
            obtain ⟨_, hl, hcell⟩ := World.cells?_some hc
            have := hcell 0 (by omega)
            rw [Nat.zero_mul, List.getElem?_eq_getElem (by omega)] at this
            simp only [Addr.add, if_true, World.cell?] at this
            split at this
            · split at this
              · cases this
              · rename_i hs; simpa using hs
            · cases this
          subst hspot
          obtain ⟨f, hf⟩ := Go.Deep.choose_lt (α := List V) (n := len) (p := fun i row => Sh.isL r' row ∧ ∀ (j : Nat) (v : V), row[j]? = some v → ∃ y, cellIn W blk (off + (i * r'.length + j)) = some y ∧ RelD (cellIn W) v y) (fun i hi => by
            obtain ⟨cs', hc, ht'⟩ := hel i (by omega)
            obtain ⟨row, g1, g2⟩ := reads_as n' m _ _ _ _ ht' hr'
            refine ⟨row, g1, fun j v hj => ?_⟩
            obtain ⟨_, hl, hcell⟩ := World.cells?_some hc
            have hjl : j < cs'.length := by
              have := (List.getElem?_eq_some_iff.1 hj).1
              rw [g2.1] at this; exact this
            have h1 := hcell j (by omega)
            rw [List.getElem?_eq_getElem hjl, Addr.add_lit, Addr.add_lit, cell?_eq, ← hsz] at h1
            exact ⟨cs'[j], by rw [← Nat.add_assoc]; exact h1, g2.2 j v _ hj (List.getElem?_eq_getElem hjl)⟩)
          have hlen : ((List.range len).map f).length = len := by simp
          have hel2 : ∀ e ∈ (List.range len).map f, Sh.isL r' e := by
            intro e he
            obtain ⟨i, hi, rfl⟩ := List.mem_map.1 he
            exact (hf i (by simpa using hi)).1
          have hel3 : ∀ e ∈ (List.range len).map f, e.length = r'.length := fun e he => isL_length (hel2 e he)
          have key : ∀ J d, ((List.range len).map f).flatten[J]? = some d → ∃ y, cellIn W blk (off + J) = some y ∧ RelD (cellIn W) d y := by
            intro J d hJ
            have hJl : J < len * r'.length := by
              have := (List.getElem?_eq_some_iff.1 hJ).1
              rwa [flat_len hel3, hlen] at this
            have hi : J / r'.length < len := Nat.div_lt_of_lt_mul (by rwa [Nat.mul_comm] at hJl)
            have hj : J % r'.length < r'.length := Nat.mod_lt _ hpos
            have e1 : J / r'.length * r'.length + J % r'.length = J := by rw [Nat.mul_comm]; exact Nat.div_add_mod _ _
            have h2 := flat_get hel3 (ix := J / r'.length) (j := J % r'.length) (e := f (J / r'.length)) (by simp [hi]) hj
            rw [e1, hJ] at h2
            have := (hf _ hi).2 _ _ h2.symm
            rwa [e1] at this
          refine ⟨[.sl none r'.length ((List.range len).map f)], ?_, .one ?_⟩
          · simp only [Sh.isL, Sh.is, and_true]
            exact ⟨_, rfl, by rw [hlen]; omega, hel2⟩
          · have := RelD.sl (I := cellIn W) r'.length ((List.range len).map f) blk off q (fun J => (cellIn W blk (off + J)).getD default) (by rw [hlen]; exact hlc) hel3 (fun J d hJ => by
              obtain ⟨y, hy, _⟩ := key J d hJ
              rw [hy]; rfl) (fun J d hJ => by
              obtain ⟨y, hy, hr⟩ := key J d hJ
              rw [hy]; exact hr)
            rw [hlen] at this
            exact this
    · rename_i fs ht
      split at hs
      case h_2 => cases hs
      rename_i r' hr'
      split at hs
      case isFalse => cases hs
      rename_i hsz
      cases hs
      obtain ⟨xs, n', hn, _, hl, hxl, hf⟩ := DataW.trod_struct ht h
      have hn : n = n' := by omega
      subst hn
      refine fields_row (reads_as n m) fs.toList [] _ [] hr' trivial ⟨by simp, fun j v x hj => by simp at hj⟩ (Nat.zero_le _) (fun f hfm => ?_) (by rw [hsz, hl])
      obtain ⟨i, hi⟩ := List.getElem?_of_mem hfm
      have hi' : fs[i]? = some f := by simpa using hi
      have hlt : i < xs.length := by
        rw [hxl]
        have := (Array.getElem?_eq_some_iff.1 hi').1
        exact this
      exact ⟨xs[i], by rw [hf i f hi', List.getElem?_eq_getElem hlt]⟩
    · rename_i k e ht
      split at hs
      case h_2 => cases hs
      rename_i r' hr'
      split at hs
      case isFalse => cases hs
      rename_i hsz
      cases hs
      obtain ⟨xs, n', hn, _, hl, hxl, hf⟩ := DataW.trod_array ht h
      have hn : n = n' := by omega
      subst hn
      refine times_row (reads_as n m) hr' hsz.1 k cs (by rw [hl, hsz.2]) fun i hi => ?_
      exact ⟨xs[i]'(by omega), by rw [hf i hi, List.getElem?_eq_getElem (by omega)]⟩
    · cases hs
end
end Go.Eng
