/-
How abstract values, objects and heaps stand to the model's: 'Rel', 'Sim', 'Ext', and the steps that keep them.
-/
import Derived.Test.YtfobkjdmohaakaaGreatEngCore
import Derived.Calls
import Derived.Deep.MidRow
namespace Go.Eng
open Go

/-- Cells of blocks that are never written again, and what they hold. -/
abbrev Imm := Nat → Nat → Option Value

/-- Where an object lies: a block, from where on it is its own, up to where. -/
structure Loc where
  blk : Nat
  base : Nat
  fin : Nat

structure Env where
  I : Imm
  μ : Key → Loc
  ng : Nat
  nl : Nat

def Env.has (E : Env) : Key → Prop
  | .g n => n < E.ng
  | .l n => n < E.nl

structure Env.Le (E F : Env) : Prop where
  imm : ∀ b o x, E.I b o = some x → F.I b o = some x
  ng : E.ng ≤ F.ng
  nl : E.nl ≤ F.nl
  loc : ∀ k, E.has k → F.μ k = E.μ k

theorem Env.Le.refl (E : Env) : E.Le E := ⟨fun _ _ _ h => h, Nat.le_refl _, Nat.le_refl _, fun _ _ => rfl⟩
theorem Env.Le.has {E F : Env} (h : E.Le F) {k : Key} (hk : E.has k) : F.has k := by
  cases k with
  | g n => exact Nat.lt_of_lt_of_le hk h.ng
  | l n => exact Nat.lt_of_lt_of_le hk h.nl
theorem Env.Le.trans {E F G : Env} (h : E.Le F) (h' : F.Le G) : E.Le G :=
  ⟨fun b o x hx => h'.imm b o x (h.imm b o x hx), Nat.le_trans h.ng h'.ng, Nat.le_trans h.nl h'.nl,
    fun k hk => (h'.loc k (h.has hk)).trans (h.loc k hk)⟩

def str (l : List UInt8) : ByteArray := ⟨l.toArray⟩

inductive RelD (I : Imm) : V → Value → Prop where
  | b (x : Bool) : RelD I (.b x) (.bool x)
  | i (k : IntKind) (n : Int) : RelD I (.i k n) (.int k n)
  | s (l : List UInt8) : RelD I (.s l) (.string (str l))
  | nils : RelD I .nils (.slice none 0 0)
  | slNil (sz : Nat) : RelD I (.sl none sz []) (.slice none 0 0)
  | slE (sz : Nat) (a : Addr) (hs : a.spot ≠ none) : RelD I (.sl none sz []) (.slice (some a) 0 0)
  | sl (sz : Nat) (es : List (List V)) (blk off cap : Nat) (val : Nat → Value) (hc : es.length ≤ cap) (hl : ∀ e ∈ es, e.length = sz)
      (hv : ∀ j d, es.flatten[j]? = some d → I blk (off + j) = some (val j)) (hr : ∀ j d, es.flatten[j]? = some d → RelD I d (val j)) :
      RelD I (.sl none sz es) (.slice (some ⟨blk, off, none⟩) es.length cap)

/-- What may lie in an object: in one of the whole call tree, no name of an activation's. -/
def Env.cut (E : Env) : Env := { E with nl := 0 }
def Env.at (E : Env) : Key → Env
  | .g _ => E.cut
  | .l _ => E
theorem Env.cut_le (E : Env) : E.cut.Le E := ⟨fun _ _ _ h => h, Nat.le_refl _, Nat.zero_le _, fun _ _ => rfl⟩
theorem Env.cut_mono {E F : Env} (h : E.Le F) : E.cut.Le F.cut :=
  ⟨h.imm, h.ng, Nat.le_refl _, fun k hk => h.loc k (E.cut_le.has hk)⟩
theorem Env.at_mono {E F : Env} (h : E.Le F) (k : Key) : (E.at k).Le (F.at k) := by
  cases k with
  | g n => exact Env.cut_mono h
  | l n => exact h
theorem Env.at_le (E : Env) (k : Key) : (E.at k).Le E := by
  cases k with
  | g n => exact E.cut_le
  | l n => exact .refl E

inductive Rel (E : Env) : V → Value → Prop where
  | deep {v : V} {x : Value} (h : RelD E.I v x) : Rel E v x
  | nilp : Rel E .nilp (.pointer none)
  | p (k : Key) (off : Nat) (hk : E.has k) : Rel E (.p k off) (.pointer (some ⟨(E.μ k).blk, (E.μ k).base + off, none⟩))
  | pa (k : Key) (sz ix off : Nat) (hk : E.has k) : Rel E (.pa k sz ix off) (.pointer (some ⟨(E.μ k).blk, (E.μ k).base + ix * sz + off, none⟩))
  | pc (cs : List V) (off blk o : Nat) (val : Nat → Value) (hv : ∀ j d, cs[j]? = some d → E.I blk (o + j) = some (val j))
      (hr : ∀ j d, cs[j]? = some d → RelD E.I d (val j)) : Rel E (.pc cs off) (.pointer (some ⟨blk, o + off, none⟩))
  | tsl (k : Key) (sz : Nat) (es : List (List V)) (a : Addr) (cap : Nat) (hk : E.has k) (hd : RelD E.I (.sl none sz es) (.slice (some a) es.length cap))
      (hb : a.block = (E.μ k).blk ∧ a.spot = none) (hs : cap = es.length ∨ (a.off + es.length * sz = (E.μ k).base ∧ a.off + cap * sz = (E.μ k).fin)) :
      Rel E (.sl (some k) sz es) (.slice (some a) es.length cap)
  | ms (k : Key) (sz st len : Nat) (a : Addr) (cap : Nat) (hk : E.has k) (hc : len ≤ cap) (hf : (E.μ k).base + (st + cap) * sz = (E.μ k).fin)
      (hb : a.block = (E.μ k).blk) (ha : cap = 0 ∨ a = ⟨(E.μ k).blk, (E.μ k).base + st * sz, none⟩) : Rel E (.ms k sz st len) (.slice (some a) len cap)
  | nilm : Rel E .nilm (.map none)
  | m (k : Key) (hk : E.has k) : Rel E (.m k) (.map (some (E.μ k).blk))
  | fn (f : Nat) (a c : List V) (a' c' : Array Value) (ha : a'.size = a.length) (hc : c'.size = c.length)
      (hra : ∀ (j : Nat) (v : V) (x : Value), a[j]? = some v → a'[j]? = some x → Rel E v x)
      (hrc : ∀ (j : Nat) (v : V) (x : Value), c[j]? = some v → c'[j]? = some x → Rel E v x) : Rel E (.fn f a c) (.func (.func f) a' c')
  | nilf : Rel E .nilf .nilFunc
  | agg (cs : List V) (a : Array Value) (ha : a.size = cs.length) (h1 : ∀ (j : Nat) (x : Value), a[j]? = some x → x.oneCell' = true) (hr : ∀ (j : Nat) (v : V) (x : Value), cs[j]? = some v → a[j]? = some x → Rel E v x) : Rel E (.agg cs) (.agg a)
  | tup (cs : List V) (a : Array Value) (ha : a.size = cs.length) (hr : ∀ (j : Nat) (v : V) (x : Value), cs[j]? = some v → a[j]? = some x → Rel E v x) : Rel E (.tup cs) (.tuple a)
  | junk (x : Value) : Rel E .junk x

theorem RelD.mono {I J : Imm} (h : ∀ b o x, I b o = some x → J b o = some x) {v : V} {x : Value} (hr : RelD I v x) : RelD J v x := by
  induction hr with
  | b x => exact .b x
  | i k n => exact .i k n
  | s l => exact .s l
  | nils => exact .nils
  | slNil sz => exact .slNil sz
  | slE sz a hs => exact .slE sz a hs
  | sl sz es blk off cap val hc hl hv _ ih => exact .sl sz es blk off cap val hc hl (fun j d hj => h _ _ _ (hv j d hj)) ih

theorem RelD.slEmpty {I : Imm} (sz : Nat) (p : Option Addr) : RelD I (.sl none sz []) (.slice p 0 0) := by
  cases p with
  | none => exact .slNil sz
  | some a =>
    obtain ⟨blk, off, s⟩ := a
    cases s with
    | none => exact .sl sz [] blk off 0 (fun _ => default) (Nat.le_refl _) (fun e he => by cases he) (fun j d hj => by simp at hj) (fun j d hj => by simp at hj)
    | some x => exact .slE sz _ (by simp)
theorem Rel.mono {E F : Env} (h : E.Le F) {v : V} {x : Value} (hr : Rel E v x) : Rel F v x := by
  induction hr with
  | deep hd => exact .deep (hd.mono h.imm)
  | nilp => exact .nilp
  | p k off hk => rw [← h.loc k hk]; exact .p k off (h.has hk)
  | pa k sz ix off hk => rw [← h.loc k hk]; exact .pa k sz ix off (h.has hk)
  | pc cs off blk o val hv hr => exact .pc cs off blk o val (fun j d hj => h.imm _ _ _ (hv j d hj)) (fun j d hj => (hr j d hj).mono h.imm)
  | tsl k sz es a cap hk hd hb hs => exact .tsl k sz es a cap (h.has hk) (hd.mono h.imm) (by rw [h.loc k hk]; exact hb) (by rw [h.loc k hk]; exact hs)
  | ms k sz st len a cap hk hc hf hb ha => exact .ms k sz st len a cap (h.has hk) hc (by rw [h.loc k hk]; exact hf) (by rw [h.loc k hk]; exact hb) (by rw [h.loc k hk]; exact ha)
  | nilm => exact .nilm
  | m k hk => rw [← h.loc k hk]; exact .m k (h.has hk)
  | fn f a c a' c' ha hc _ _ iha ihc => exact .fn f a c a' c' ha hc iha ihc
  | nilf => exact .nilf
  | agg cs a ha h1 _ ih => exact .agg cs a ha h1 ih
  | tup cs a ha _ ih => exact .tup cs a ha ih
  | junk x => exact .junk x

/-- Cell by cell. -/
def RelL (E : Env) (l : List V) (a : Array Value) : Prop := a.size = l.length ∧ ∀ (j : Nat) (v : V) (x : Value), l[j]? = some v → a[j]? = some x → Rel E v x
theorem RelL.mono {E F : Env} (h : E.Le F) {l : List V} {a : Array Value} (hr : RelL E l a) : RelL F l a := ⟨hr.1, fun j v x h1 h2 => (hr.2 j v x h1 h2).mono h⟩
theorem RelL.get {E : Env} {l : List V} {a : Array Value} (h : RelL E l a) {j : Nat} {v : V} (hj : l[j]? = some v) : ∃ x, a[j]? = some x ∧ Rel E v x := by
  have hlt : j < l.length := (List.getElem?_eq_some_iff.1 hj).1
  have : j < a.size := by rw [h.1]; exact hlt
  exact ⟨a[j], by simp [this], h.2 j v _ hj (by simp [this])⟩

/-- Nothing of the block's own cells is frozen. -/
def FzOk (fz : Nat × Nat) (n : Nat) : Prop := fz.1 = fz.2 ∨ n ≤ fz.1

/-- A row of cells, from the object's base on. -/
def RowOf (E : Env) (w : World) (L : Loc) (cs : List V) : Prop :=
  ∃ cells t fz, w.heap[L.blk]? = some (.cells cells t fz) ∧ FzOk fz cells.size ∧ L.base + cs.length ≤ L.fin ∧ L.fin ≤ cells.size ∧
    ∀ j v, cs[j]? = some v → ∃ x, cells[L.base + j]? = some x ∧ Rel E v x ∧ x.oneCell' = true

def Holds (E : Env) (w : World) (L : Loc) : Obj → Prop
  | .cs c => L.base = 0 ∧ RowOf E w L c
  | .arr sz es => (∀ e ∈ es, e.length = sz) ∧ RowOf E w L es.flatten
  | .spare => RowOf E w L []
  | .mp kd es => ∃ ents clock, w.heap[L.blk]? = some (.map ents clock) ∧ ents.size = es.length ∧
      (∀ (j : Nat) (q : V × V) (e : MapEntry), es[j]? = some q → ents[j]? = some e → RelD E.I q.1 e.key ∧ q.1.isKeyOf kd = true ∧ Rel E q.2 e.val) ∧ ∀ x ∈ ents.toList, x.born < clock

def St.live (st : St) (k : Key) : Prop := ∃ o, st.get k = some o

def cellIn (w : World) (b o : Nat) : Option Value :=
  match w.heap[b]? with
  | some (.cells c _ _) => c[o]?
  | _ => none
theorem cell?_eq (w : World) (b o : Nat) : w.cell? ⟨b, o, none⟩ = cellIn w b o := by
  simp only [World.cell?, cellIn]
  split <;> simp_all

structure Sim (E : Env) (st : St) (w : World) : Prop where
  ng : st.g.next = E.ng
  nl : st.l.next = E.nl
  dom : ∀ k, st.live k → E.has k
  imm : ∀ b o x, E.I b o = some x → cellIn w b o = some x
  obj : ∀ k o, st.get k = some o → Holds (E.at k) w (E.μ k) o
  sep : ∀ k k', st.live k → st.live k' → k ≠ k' → (E.μ k).blk ≠ (E.μ k').blk
  own : ∀ k, st.live k → ∀ j, (E.μ k).base ≤ j → j < (E.μ k).fin → E.I (E.μ k).blk j = none

structure Ext (E : Env) (st : St) (w : World) (E' : Env) (st' : St) (w' : World) : Prop where
  le : E.Le E'
  size : w.heap.size ≤ w'.heap.size
  immNew : ∀ b o x, E'.I b o = some x → E.I b o = some x ∨ w.heap.size ≤ b ∨ ∃ k, st.live k ∧ (E.μ k).blk = b
  keyOld : ∀ k, st'.live k → E.has k → st.live k
  keyNew : ∀ k, st'.live k → ¬ E.has k → w.heap.size ≤ (E'.μ k).blk ∨ ∃ k0, st.live k0 ∧ (E.μ k0).blk = (E'.μ k).blk
  same : ∀ b, b < w.heap.size → (∀ k, st.live k → (E.μ k).blk ≠ b) → w'.heap[b]? = w.heap[b]?
  os : w'.os = w.os
  out : w'.output = w.output
  tape : w'.tape = w.tape

theorem Ext.refl (E : Env) (st : St) (w : World) : Ext E st w E st w :=
  ⟨.refl E, Nat.le_refl _, fun _ _ _ h => .inl h, fun _ h _ => h, fun k h _ => .inr ⟨k, h, rfl⟩, fun _ _ _ => rfl, rfl, rfl, rfl⟩

theorem Ext.trans {E : Env} {st : St} {w : World} {E' : Env} {st' : St} {w' : World} {E'' : Env} {st'' : St} {w'' : World}
    (h : Ext E st w E' st' w') (g : Ext E' st' w' E'' st'' w'') : Ext E st w E'' st'' w'' where
  le := h.le.trans g.le
  size := Nat.le_trans h.size g.size
  immNew b o x hx := by
    rcases g.immNew b o x hx with h1 | h1 | ⟨k, hk, hb⟩
    · exact h.immNew b o x h1
    · exact .inr (.inl (Nat.le_trans h.size h1))
    · by_cases he : E.has k
      · exact .inr (.inr ⟨k, h.keyOld k hk he, by rw [← hb, h.le.loc k he]⟩)
      · rcases h.keyNew k hk he with h2 | ⟨k0, h2, h3⟩
        · exact .inr (.inl (hb ▸ h2))
        · exact .inr (.inr ⟨k0, h2, h3.trans hb⟩)
  keyOld k hk he := h.keyOld k (g.keyOld k hk (h.le.has he)) he
  keyNew k hk he := by
    by_cases he' : E'.has k
    · have hk' := g.keyOld k hk he'
      rw [g.le.loc k he']
      exact h.keyNew k hk' he
    · rcases g.keyNew k hk he' with h1 | ⟨k0, h1, h2⟩
      · exact .inl (Nat.le_trans h.size h1)
      · rw [← h2]
        by_cases he0 : E.has k0
        · exact .inr ⟨k0, h.keyOld k0 h1 he0, by rw [h.le.loc k0 he0]⟩
        · exact h.keyNew k0 h1 he0
  same b hb hn := by
    rw [← h.same b hb hn]
    refine g.same b (Nat.lt_of_lt_of_le hb h.size) fun k hk => ?_
    by_cases he : E.has k
    · rw [h.le.loc k he]; exact hn k (h.keyOld k hk he)
    · rcases h.keyNew k hk he with h2 | ⟨k0, h2, h3⟩
      · omega
      · rw [← h3]; exact hn k0 h2
  os := g.os.trans h.os
  out := g.out.trans h.out
  tape := g.tape.trans h.tape

/-- A world of the same memory and streams serves as well. -/
theorem Holds.of_heap {E : Env} {w w' : World} (h : w'.heap = w.heap) {L : Loc} {o : Obj} (ho : Holds E w L o) : Holds E w' L o := by
  cases o <;> simp only [Holds, RowOf, h] at * <;> exact ho
theorem Sim.of_heap {E : Env} {st : St} {w w' : World} (h : w'.heap = w.heap) (hs : Sim E st w) : Sim E st w' :=
  ⟨hs.ng, hs.nl, hs.dom, fun b o x hx => by simpa [cellIn, h] using hs.imm b o x hx, fun k o hk => (hs.obj k o hk).of_heap h, hs.sep, hs.own⟩
theorem Ext.drawn {E : Env} {st : St} {w : World} (n : Nat) : Ext E st w E st { w with drawn := n } :=
  ⟨.refl E, Nat.le_refl _, fun _ _ _ h => .inl h, fun _ h _ => h, fun k h _ => .inr ⟨k, h, rfl⟩, fun _ _ _ => rfl, rfl, rfl, rfl⟩

/-! Heaps. -/
theorem Heap.find_upd (l : List (Nat × Obj)) (n m : Nat) (x : Obj) : Heap.find (Heap.upd l n x) m = if m = n then (Heap.find l n).map fun _ => x else Heap.find l m := by
  induction l with
  | nil => simp [Heap.upd, Heap.find]
  | cons q r ih =>
    obtain ⟨k, o⟩ := q
    by_cases hk : k = n
    · subst hk
      simp only [Heap.upd, if_true, Heap.find]
      by_cases hm : m = k
      · subst hm; simp
      · have : ¬ k = m := fun e => hm e.symm
        simp [hm, this]
    · simp only [Heap.upd, if_neg hk, Heap.find, ih]
      by_cases hm : m = n
      · subst hm; simp [hk]
      · simp [hm]
theorem Heap.find_del (l : List (Nat × Obj)) (n m : Nat) : Heap.find (Heap.del l n) m = if m = n then none else Heap.find l m := by
  induction l with
  | nil => simp [Heap.del, Heap.find]
  | cons q r ih =>
    obtain ⟨k, o⟩ := q
    by_cases hk : k = n
    · subst hk
      simp only [Heap.del, if_true, Heap.find, ih]
      by_cases hm : m = k
      · simp [hm]
      · have : ¬ k = m := fun e => hm e.symm
        simp [hm, this]
    · simp only [Heap.del, if_neg hk, Heap.find, ih]
      by_cases hm : m = n
      · subst hm; simp [hk]
      · simp [hm]
theorem Heap.get_set (h : Heap) (n m : Nat) (x : Obj) : (h.set n x).get m = if m = n then (h.get n).map fun _ => x else h.get m := Heap.find_upd _ _ _ _
theorem Heap.get_remove (h : Heap) (n m : Nat) : (h.remove n).get m = if m = n then none else h.get m := Heap.find_del _ _ _
theorem Heap.get_push (h : Heap) (m : Nat) (x : Obj) : (h.push x).get m = if m = h.next then some x else h.get m := by
  simp only [Heap.push, Heap.get, Heap.find]
  by_cases hm : m = h.next
  · simp [hm]
  · have : ¬ h.next = m := fun e => hm e.symm
    simp [hm, this]

theorem St.get_set (st : St) (k k' : Key) (x : Obj) : (st.set k x).get k' = if k' = k then (st.get k).map fun _ => x else st.get k' := by
  cases k <;> cases k' <;> simp [St.set, St.get, Heap.get_set]
theorem St.get_remove (st : St) (k k' : Key) : (st.remove k).get k' = if k' = k then none else st.get k' := by
  cases k <;> cases k' <;> simp [St.remove, St.get, Heap.get_remove]
theorem St.get_push (st : St) (g : Bool) (k' : Key) (x : Obj) : (st.push g x).get k' = if k' = st.newKey g then some x else st.get k' := by
  cases g <;> cases k' <;> simp [St.push, St.newKey, St.get, Heap.get_push]
theorem St.newKey_remove (st : St) (k : Key) (g : Bool) : (st.remove k).newKey g = st.newKey g := by
  cases k <;> cases g <;> rfl

/-! The environment with one more object, and more immutable cells. -/
def Env.push (E : Env) (g : Bool) (L : Loc) (J : Imm) : Env where
  I b o := match E.I b o with
    | some x => some x
    | none => J b o
  μ k := match g with
    | true => if k = .g E.ng then L else E.μ k
    | false => if k = .l E.nl then L else E.μ k
  ng := match g with
    | true => E.ng + 1
    | false => E.ng
  nl := match g with
    | true => E.nl
    | false => E.nl + 1
def Env.newKey (E : Env) : Bool → Key
  | true => .g E.ng
  | false => .l E.nl
theorem Env.not_has_newKey (E : Env) (g : Bool) : ¬ E.has (E.newKey g) := by cases g <;> simp [Env.newKey, Env.has]
theorem Env.push_le (E : Env) (g : Bool) (L : Loc) (J : Imm) : E.Le (E.push g L J) := by
  refine ⟨fun b o x hx => by simp [Env.push, hx], ?_, ?_, ?_⟩
  · cases g <;> simp [Env.push]
  · cases g <;> simp [Env.push]
  · intro k hk
    cases g <;> simp only [Env.push] <;> rw [if_neg] <;> rintro rfl <;> simp [Env.has] at hk
theorem Env.push_new (E : Env) (g : Bool) (L : Loc) (J : Imm) : (E.push g L J).μ (E.newKey g) = L := by cases g <;> simp [Env.push, Env.newKey]
theorem Env.push_has (E : Env) (g : Bool) (L : Loc) (J : Imm) (k : Key) : (E.push g L J).has k ↔ E.has k ∨ k = E.newKey g := by
  cases g <;> cases k <;> simp [Env.push, Env.newKey, Env.has] <;> omega
theorem Env.push_has_new (E : Env) (g : Bool) (L : Loc) (J : Imm) : (E.push g L J).has (E.newKey g) := (E.push_has g L J _).2 (.inr rfl)

theorem Sim.newKey {E : Env} {st : St} {w : World} (h : Sim E st w) (g : Bool) : st.newKey g = E.newKey g := by
  cases g <;> simp [St.newKey, Env.newKey, h.ng, h.nl]

/-- An object keeps its row where its block stays as it was. -/
theorem RowOf.keep {E F : Env} (hle : E.Le F) {w w' : World} {L : Loc} {cs : List V} (hb : w'.heap[L.blk]? = w.heap[L.blk]?) (h : RowOf E w L cs) : RowOf F w' L cs := by
  obtain ⟨cells, t, fz, h1, h2, h3, h4, h5⟩ := h
  exact ⟨cells, t, fz, by rw [hb, h1], h2, h3, h4, fun j v hj => let ⟨x, hx, hr, h1⟩ := h5 j v hj; ⟨x, hx, hr.mono hle, h1⟩⟩
theorem Holds.keep {E F : Env} (hle : E.Le F) {w w' : World} {L : Loc} {o : Obj} (hb : w'.heap[L.blk]? = w.heap[L.blk]?) (h : Holds E w L o) : Holds F w' L o := by
  cases o with
  | cs c => exact ⟨h.1, RowOf.keep hle hb h.2⟩
  | arr sz es => exact ⟨h.1, RowOf.keep hle hb h.2⟩
  | spare => exact RowOf.keep hle hb h
  | mp kd es =>
    obtain ⟨ents, clock, h1, h2, h3, h4⟩ := h
    exact ⟨ents, clock, by rw [hb, h1], h2, fun j q e hq he => let ⟨a, b, c⟩ := h3 j q e hq he; ⟨a.mono hle.imm, b, c.mono hle⟩, h4⟩
theorem Holds.size {E : Env} {w : World} {L : Loc} {o : Obj} (h : Holds E w L o) : L.blk < w.heap.size := by
  have : ∃ x, w.heap[L.blk]? = some x := by
    cases o with
    | cs c => obtain ⟨_, cells, t, fz, h1, _⟩ := h; exact ⟨_, h1⟩
    | arr sz es => obtain ⟨_, cells, t, fz, h1, _⟩ := h; exact ⟨_, h1⟩
    | spare => obtain ⟨cells, t, fz, h1, _⟩ := h; exact ⟨_, h1⟩
    | mp kd es => obtain ⟨ents, clock, h1, _⟩ := h; exact ⟨_, h1⟩
  obtain ⟨x, hx⟩ := this
  exact (Array.getElem?_eq_some_iff.1 hx).1
theorem Sim.lt {E : Env} {st : St} {w : World} (h : Sim E st w) {k : Key} (hk : st.live k) : (E.μ k).blk < w.heap.size :=
  let ⟨o, ho⟩ := hk; (h.obj k o ho).size

/-- (L1) A new block, with a new object in it, and maybe immutable cells; maybe an elder object is gone. -/
theorem Sim.fresh {E : Env} {st : St} {w w' : World} (h : Sim E st w) (gone : Option Key) (g : Bool) (base fin : Nat) (J : Nat → Option Value) (o : Obj) (ob : Go.Obj)
    (hh : w'.heap = w.heap.push ob) (hos : w'.os = w.os) (hout : w'.output = w.output) (htape : w'.tape = w.tape)
    (hJ : ∀ j x, J j = some x → (∃ c t fz, ob = .cells c t fz ∧ c[j]? = some x) ∧ ¬ (base ≤ j ∧ j < fin))
    (ho : Holds ((E.push g ⟨w.heap.size, base, fin⟩ fun b j => if b = w.heap.size then J j else none).at (E.newKey g)) w' ⟨w.heap.size, base, fin⟩ o) :
    let st' := (match gone with | some k => st.remove k | none => st).push g o
    let E' := E.push g ⟨w.heap.size, base, fin⟩ fun b j => if b = w.heap.size then J j else none
    Sim E' st' w' ∧ Ext E st w E' st' w' := by
  intro st' E'
  have hle : E.Le E' := Env.push_le _ _ _ _
  have hnk : st.newKey g = E.newKey g := h.newKey g
  have hget : ∀ k, st'.get k = if k = E.newKey g then some o else (match gone with | some k0 => if k = k0 then none else st.get k | none => st.get k) := by
    intro k
    simp only [st']
    cases gone with
    | none => rw [St.get_push, hnk]
    | some k0 => rw [St.get_push, St.newKey_remove, hnk, St.get_remove]
  have hliv : ∀ k, st'.live k → k ≠ E.newKey g → st.live k := by
    rintro k ⟨x, hx⟩ hne
    rw [hget, if_neg hne] at hx
    cases gone with
    | none => exact ⟨x, hx⟩
    | some k0 =>
      simp only at hx
      split at hx
      · cases hx
      · exact ⟨x, hx⟩
  have hold : ∀ b, b < w.heap.size → w'.heap[b]? = w.heap[b]? := by
    intro b hb
    rw [hh, Array.getElem?_push, if_neg (by omega)]
  have hnew : w'.heap[w.heap.size]? = some ob := by rw [hh]; simp
  have hsz : w'.heap.size = w.heap.size + 1 := by rw [hh]; simp
  have hImm : ∀ b j x, E.I b j = some x → b < w.heap.size := by
    intro b j x hx
    have := h.imm b j x hx
    simp only [cellIn] at this
    rcases Nat.lt_or_ge b w.heap.size with hl | hl
    · exact hl
    · simp [Array.getElem?_eq_none hl] at this
  have hnext : st'.g.next = E'.ng ∧ st'.l.next = E'.nl := by
    have h1 := h.ng
    have h2 := h.nl
    simp only [st', E']
    cases gone with
    | none => cases g <;> simp [St.push, Heap.push, Env.push, h1, h2]
    | some k => cases k <;> cases g <;> simp [St.push, Heap.push, St.remove, Heap.remove, Env.push, h1, h2]
  have hdom : ∀ k, st'.live k → E'.has k := by
    intro k hk
    by_cases hne : k = E.newKey g
    · subst hne; exact Env.push_has_new _ _ _ _
    · exact hle.has (h.dom k (hliv k hk hne))
  have hμn : E'.μ (E.newKey g) = ⟨w.heap.size, base, fin⟩ := Env.push_new _ _ _ _
  refine ⟨⟨hnext.1, hnext.2, hdom, ?_, ?_, ?_, ?_⟩, ⟨hle, by omega, ?_, ?_, ?_, fun b hb _ => hold b hb, hos, hout, htape⟩⟩
  · intro b j x hx
    simp only [E', Env.push] at hx
    cases hI : E.I b j with
    | some y =>
      rw [hI] at hx
      have hb := hImm b j y hI
      have := h.imm b j y hI
      simp only [cellIn, hold b hb] at *
      simp only [Option.some.injEq] at hx
      rw [this, hx]
    | none =>
      rw [hI] at hx
      simp only at hx
      split at hx
      · rename_i hb
        subst hb
        obtain ⟨⟨c, t, fz, rfl, hc⟩, _⟩ := hJ j x hx
        simp only [cellIn, hnew, hc]
      · cases hx
  · intro k x hk
    by_cases hne : k = E.newKey g
    · subst hne
      rw [hget, if_pos rfl] at hk
      simp only [Option.some.injEq] at hk
      subst hk
      rw [hμn]; exact ho
    · have hl := hliv k ⟨x, hk⟩ hne
      rw [hget, if_neg hne] at hk
      have hk' : st.get k = some x := by
        cases gone with
        | none => exact hk
        | some k0 =>
          simp only at hk
          split at hk
          · cases hk
          · exact hk
      rw [hle.loc k (h.dom k hl)]
      exact (h.obj k x hk').keep (Env.at_mono hle k) (hold _ (h.lt hl))
  · intro k k' hk hk' hne
    by_cases h1 : k = E.newKey g
    · subst h1
      have h2 : k' ≠ E.newKey g := fun e => hne e.symm
      have hl := hliv k' hk' h2
      rw [hμn, hle.loc k' (h.dom k' hl)]
      have := h.lt hl
      simp only [ne_eq]; omega
    · have hl := hliv k hk h1
      by_cases h2 : k' = E.newKey g
      · subst h2
        rw [hμn, hle.loc k (h.dom k hl)]
        have := h.lt hl
        simp only [ne_eq]; omega
      · have hl' := hliv k' hk' h2
        rw [hle.loc k (h.dom k hl), hle.loc k' (h.dom k' hl')]
        exact h.sep k k' hl hl' hne
  · intro k hk j hj1 hj2
    by_cases h1 : k = E.newKey g
    · subst h1
      rw [hμn] at *
      simp only at hj1 hj2 ⊢
      simp only [E', Env.push]
      cases hI : E.I w.heap.size j with
      | some y => exact absurd (hImm _ _ _ hI) (by omega)
      | none =>
        simp only [if_true]
        cases hJ' : J j with
        | none => rfl
        | some y => exact absurd ⟨hj1, hj2⟩ (hJ j y hJ').2
    · have hl := hliv k hk h1
      rw [hle.loc k (h.dom k hl)] at *
      have hlt := h.lt hl
      simp only [E', Env.push, h.own k hl j hj1 hj2]
      rw [if_neg (by omega)]
  · intro b j x hx
    simp only [E', Env.push] at hx
    cases hI : E.I b j with
    | some y => rw [hI] at hx; exact .inl hx
    | none =>
      rw [hI] at hx
      simp only at hx
      split at hx
      · rename_i hb; exact .inr (.inl (by omega))
      · cases hx
  · intro k hk he
    exact hliv k hk (fun e => E.not_has_newKey g (e ▸ he))
  · intro k hk he
    by_cases h1 : k = E.newKey g
    · subst h1; rw [hμn]; exact .inl (Nat.le_refl _)
    · exact absurd (h.dom k (hliv k hk h1)) he

/-- (L2a) An object's own block is written. -/
theorem Sim.set {E : Env} {st : St} {w w' : World} (h : Sim E st w) {k : Key} {o0 : Obj} (hk : st.get k = some o0) (o : Obj)
    (hsz : w'.heap.size = w.heap.size) (hoth : ∀ b, b ≠ (E.μ k).blk → w'.heap[b]? = w.heap[b]?) (hos : w'.os = w.os) (hout : w'.output = w.output) (htape : w'.tape = w.tape)
    (himm : ∀ j x, E.I (E.μ k).blk j = some x → cellIn w' (E.μ k).blk j = some x) (ho : Holds (E.at k) w' (E.μ k) o) :
    Sim E (st.set k o) w' ∧ Ext E st w E (st.set k o) w' := by
  have hget : ∀ k', (st.set k o).get k' = if k' = k then some o else st.get k' := by
    intro k'; rw [St.get_set, hk]; rfl
  have hliv : ∀ k', (st.set k o).live k' ↔ st.live k' := by
    intro k'
    simp only [St.live, hget]
    by_cases e : k' = k
    · subst e; simp [hk]
    · simp [e]
  have hnext : (st.set k o).g.next = st.g.next ∧ (st.set k o).l.next = st.l.next := by cases k <;> simp [St.set, Heap.set]
  have hlk : st.live k := ⟨o0, hk⟩
  refine ⟨⟨hnext.1.trans h.ng, hnext.2.trans h.nl, fun k' hk' => h.dom k' ((hliv k').1 hk'), ?_, ?_, ?_, ?_⟩,
    ⟨.refl E, by omega, fun _ _ _ hx => .inl hx, fun k' hk' _ => (hliv k').1 hk', fun k' hk' _ => .inr ⟨k', (hliv k').1 hk', rfl⟩, ?_, hos, hout, htape⟩⟩
  · intro b j x hx
    by_cases e : b = (E.μ k).blk
    · subst e; exact himm j x hx
    · have := h.imm b j x hx
      simp only [cellIn, hoth b e] at *
      exact this
  · intro k' x hx
    rw [hget] at hx
    by_cases e : k' = k
    · subst e; rw [if_pos rfl] at hx; simp only [Option.some.injEq] at hx; subst hx; exact ho
    · rw [if_neg e] at hx
      exact (h.obj k' x hx).keep (.refl _) (hoth _ (h.sep k' k ⟨x, hx⟩ hlk e))
  · intro a b ha hb hne
    exact h.sep a b ((hliv a).1 ha) ((hliv b).1 hb) hne
  · intro a ha j h1 h2
    exact h.own a ((hliv a).1 ha) j h1 h2
  · intro b _ hn
    exact hoth b (fun e => hn k hlk e.symm)

/-- (L2b) An object's place is taken by a new one in the same block; cells that it leaves may become immutable. -/
theorem Sim.move {E : Env} {st : St} {w w' : World} (h : Sim E st w) {k : Key} {o0 : Obj} (hk : st.get k = some o0) (g : Bool) (L : Loc) (J : Nat → Option Value) (o : Obj)
    (hL : L.blk = (E.μ k).blk) (hb1 : (E.μ k).base ≤ L.base) (hb2 : L.fin ≤ (E.μ k).fin)
    (hsz : w'.heap.size = w.heap.size) (hoth : ∀ b, b ≠ (E.μ k).blk → w'.heap[b]? = w.heap[b]?) (hos : w'.os = w.os) (hout : w'.output = w.output) (htape : w'.tape = w.tape)
    (himm : ∀ j x, E.I (E.μ k).blk j = some x → cellIn w' (E.μ k).blk j = some x)
    (hJ : ∀ j x, J j = some x → cellIn w' (E.μ k).blk j = some x ∧ ¬ (L.base ≤ j ∧ j < L.fin))
    (ho : Holds ((E.push g L fun b j => if b = (E.μ k).blk then J j else none).at (E.newKey g)) w' L o) :
    let st' := (st.remove k).push g o
    let E' := E.push g L fun b j => if b = (E.μ k).blk then J j else none
    Sim E' st' w' ∧ Ext E st w E' st' w' := by
  intro st' E'
  have hle : E.Le E' := Env.push_le _ _ _ _
  have hnk : st.newKey g = E.newKey g := h.newKey g
  have hlk : st.live k := ⟨o0, hk⟩
  have hget : ∀ k', st'.get k' = if k' = E.newKey g then some o else if k' = k then none else st.get k' := by
    intro k'
    simp only [st']
    rw [St.get_push, St.newKey_remove, hnk, St.get_remove]
  have hliv : ∀ k', st'.live k' → k' ≠ E.newKey g → st.live k' ∧ k' ≠ k := by
    rintro k' ⟨x, hx⟩ hne
    rw [hget, if_neg hne] at hx
    split at hx
    · cases hx
    · rename_i hne'; exact ⟨⟨x, hx⟩, hne'⟩
  have hnext : st'.g.next = E'.ng ∧ st'.l.next = E'.nl := by
    have h1 := h.ng
    have h2 := h.nl
    simp only [st', E']
    cases k <;> cases g <;> simp [St.push, Heap.push, St.remove, Heap.remove, Env.push, h1, h2]
  have hμn : E'.μ (E.newKey g) = L := Env.push_new _ _ _ _
  refine ⟨⟨hnext.1, hnext.2, ?_, ?_, ?_, ?_, ?_⟩, ⟨hle, by omega, ?_, ?_, ?_, ?_, hos, hout, htape⟩⟩
  · intro k' hk'
    by_cases hne : k' = E.newKey g
    · subst hne; exact Env.push_has_new _ _ _ _
    · exact hle.has (h.dom k' (hliv k' hk' hne).1)
  · intro b j x hx
    simp only [E', Env.push] at hx
    cases hI : E.I b j with
    | some y =>
      rw [hI] at hx
      simp only [Option.some.injEq] at hx
      subst hx
      by_cases e : b = (E.μ k).blk
      · subst e; exact himm j y hI
      · have := h.imm b j y hI
        simp only [cellIn, hoth b e] at *
        exact this
    | none =>
      rw [hI] at hx
      simp only at hx
      split at hx
      · rename_i hb; subst hb; exact (hJ j x hx).1
      · cases hx
  · intro k' x hx
    rw [hget] at hx
    by_cases e : k' = E.newKey g
    · subst e; rw [if_pos rfl] at hx; simp only [Option.some.injEq] at hx; subst hx; rw [hμn]; exact ho
    · rw [if_neg e] at hx
      split at hx
      · cases hx
      · rename_i hne
        rw [hle.loc k' (h.dom k' ⟨x, hx⟩)]
        exact (h.obj k' x hx).keep (Env.at_mono hle k') (hoth _ (h.sep k' k ⟨x, hx⟩ hlk hne))
  · intro a b ha hb hne
    by_cases e1 : a = E.newKey g
    · subst e1
      have e2 : b ≠ E.newKey g := fun e => hne e.symm
      have hl := hliv b hb e2
      rw [hμn, hle.loc b (h.dom b hl.1), hL]
      exact h.sep k b hlk hl.1 (fun e => hl.2 e.symm)
    · have hl := hliv a ha e1
      by_cases e2 : b = E.newKey g
      · subst e2
        rw [hμn, hle.loc a (h.dom a hl.1), hL]
        exact h.sep a k hl.1 hlk hl.2
      · have hl' := hliv b hb e2
        rw [hle.loc a (h.dom a hl.1), hle.loc b (h.dom b hl'.1)]
        exact h.sep a b hl.1 hl'.1 hne
  · intro a ha j h1 h2
    by_cases e1 : a = E.newKey g
    · subst e1
      rw [hμn] at *
      simp only [E', Env.push, hL]
      rw [h.own k hlk j (by omega) (by omega)]
      simp only [if_true]
      cases hJ' : J j with
      | none => rfl
      | some y => exact absurd ⟨h1, h2⟩ (hJ j y hJ').2
    · have hl := hliv a ha e1
      rw [hle.loc a (h.dom a hl.1)] at *
      simp only [E', Env.push, h.own a hl.1 j h1 h2]
      rw [if_neg (h.sep a k hl.1 hlk hl.2)]
  · intro b j x hx
    simp only [E', Env.push] at hx
    cases hI : E.I b j with
    | some y => rw [hI] at hx; exact .inl hx
    | none =>
      rw [hI] at hx
      simp only at hx
      split at hx
      · rename_i hb; exact .inr (.inr ⟨k, hlk, hb.symm⟩)
      · cases hx
  · intro k' hk' he
    exact (hliv k' hk' (fun e => E.not_has_newKey g (e ▸ he))).1
  · intro k' hk' he
    by_cases e : k' = E.newKey g
    · subst e; rw [hμn, hL]; exact .inr ⟨k, hlk, rfl⟩
    · exact absurd (h.dom k' (hliv k' hk' e).1) he
  · intro b _ hn
    exact hoth b (fun e => hn k hlk e.symm)
end Go.Eng
