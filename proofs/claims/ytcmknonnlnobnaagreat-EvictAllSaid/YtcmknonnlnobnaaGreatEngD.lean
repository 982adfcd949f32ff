/-
Symbolic runs: the same asks under heads that do not unfold, and a loop rule.
-/
import Derived.Test.YtcmknonnlnobnaaGreatEngC
import Derived.ProofKit
import Derived.OpenShut
import Derived.Deep.Slices
import Derived.Carry
set_option linter.unusedVariables false
set_option linter.unusedSimpArgs false
namespace Go.Eng
open Go
structure SIf (c : Bool) (X Y : Prop) : Prop where
 t : c = true → X
 f : c = false → Y
structure SEx {β : Type} (o : Option β) (k : β → Prop) : Prop where
 h : ∃ x, o = some x ∧ k x
structure SOpt {β : Type} (o : Option β) (n : Prop) (k : β → Prop) : Prop where
 n : o = none → n
 s : ∀ x, o = some x → k x
structure SChk (c : Bool) (k : Prop) : Prop where
 c : c = true
 k : k
structure SWrap (kd : IntKind) (n : Int) (k : Int → Prop) : Prop where
 h : k (kd.wrap n)
structure SAny (k : Bool → Prop) : Prop where
 h : ∀ r, k r
structure SCall (A : CallP) (f : Nat) (as : List V) (h : Heap) (K : V → Heap → Prop) : Prop where
 h : A f as h K
structure SSame (v u : V) (k : Prop) : Prop where
 e : v = u
 k : k
structure SLoop (X : (Fr → St → Prop) → Fr → St → Prop) (fr : Fr) (st : St) : Prop where
 h : ∀ R : Fr → St → Prop, (∀ fr fr' st, Fr.le fr' fr → X R fr' st → R fr st) → R fr st
theorem SIf.tt {c : Bool} {X Y : Prop} (h : c = true) (x : X) : SIf c X Y := ⟨fun _ => x, fun h' => (by rw [h] at h'; cases h')⟩
theorem SIf.ff {c : Bool} {X Y : Prop} (h : c = false) (y : Y) : SIf c X Y := ⟨fun h' => (by rw [h] at h'; cases h'), fun _ => y⟩
theorem SIf.dt {p : Prop} [Decidable p] {X Y : Prop} (h : p) (x : X) : SIf (decide p) X Y := .tt (decide_eq_true h) x
theorem SIf.df {p : Prop} [Decidable p] {X Y : Prop} (h : ¬ p) (y : Y) : SIf (decide p) X Y := .ff (decide_eq_false h) y
theorem SIf.nt {p : Prop} [Decidable p] {X Y : Prop} (h : ¬ p) (x : X) : SIf (!decide p) X Y := .tt (by rw [decide_eq_false h]; rfl) x
theorem SIf.nf {p : Prop} [Decidable p] {X Y : Prop} (h : p) (y : Y) : SIf (!decide p) X Y := .ff (by rw [decide_eq_true h]; rfl) y
theorem SIf.ds {p : Prop} [Decidable p] {X Y : Prop} (x : p → X) (y : ¬ p → Y) : SIf (decide p) X Y := ⟨fun h => x (of_decide_eq_true h), fun h => y (of_decide_eq_false h)⟩
theorem SIf.ns {p : Prop} [Decidable p] {X Y : Prop} (x : ¬ p → X) (y : p → Y) : SIf (!decide p) X Y :=
 ⟨fun h => x (of_decide_eq_false (by simpa using h)), fun h => y (of_decide_eq_true (by simpa using h))⟩
theorem SEx.of {β : Type} {o : Option β} {k : β → Prop} {x : β} (h : o = some x) (hk : k x) : SEx o k := ⟨x, h, hk⟩
theorem SOpt.no {β : Type} {o : Option β} {n : Prop} {k : β → Prop} (h : o = none) (hn : n) : SOpt o n k := ⟨fun _ => hn, fun x hx => by rw [h] at hx; cases hx⟩
theorem SOpt.of {β : Type} {o : Option β} {n : Prop} {k : β → Prop} {x : β} (h : o = some x) (hk : k x) : SOpt o n k :=
 ⟨fun hn => (by rw [h] at hn; cases hn), fun y hy => by rw [h] at hy; cases hy; exact hk⟩
theorem SChk.d {p : Prop} [Decidable p] {k : Prop} (h : p) (hk : k) : SChk (decide p) k := ⟨decide_eq_true h, hk⟩
theorem SChk.d2 {p q : Prop} [Decidable p] [Decidable q] {k : Prop} (h : p) (h' : q) (hk : k) : SChk (decide p && decide q) k := ⟨by rw [decide_eq_true h, decide_eq_true h']; rfl, hk⟩
theorem SChk.d3 {p q r : Prop} [Decidable p] [Decidable q] [Decidable r] {k : Prop} (h : p) (h' : q) (h2 : r) (hk : k) : SChk (decide p && decide q && decide r) k :=
 ⟨by rw [decide_eq_true h, decide_eq_true h', decide_eq_true h2]; rfl, hk⟩
theorem SChk.ix {i : Int} {n : Nat} {k : Prop} (h : 0 ≤ i) (h' : i < n) (hk : k) : SChk (idxOk i n) k := ⟨by unfold idxOk; rw [decide_eq_true h, decide_eq_true h']; rfl, hk⟩
theorem SWrap.w64 {n : Int} {k : Int → Prop} (h1 : -9223372036854775808 ≤ n) (h2 : n ≤ 9223372036854775807) (hk : k n) : SWrap .i64 n k :=
 ⟨by rw [wrap_of_in (by simpa [IntKind.min, IntKind.bits, IntKind.signed] using h1) (by simpa [IntKind.max, IntKind.bits, IntKind.signed] using h2)]; exact hk⟩
theorem SWrap.of {kd : IntKind} {n : Int} {k : Int → Prop} (h1 : kd.min ≤ n) (h2 : n ≤ kd.max) (hk : k n) : SWrap kd n k := ⟨by rw [wrap_of_in h1 h2]; exact hk⟩
theorem SLoop.by {X : (Fr → St → Prop) → Fr → St → Prop} {fr : Fr} {st : St} (I : Nat → Fr → St → Prop) (n : Nat) (h0 : I n fr st)
 (hs : ∀ n fr st, I n fr st → ∃ fr', Fr.le fr' fr ∧ ∀ R : Fr → St → Prop, (∀ m fr st, m < n → I m fr st → R fr st) → X R fr' st) : SLoop X fr st := by
 refine ⟨fun R hR => ?_⟩
 have key : ∀ n fr st, I n fr st → R fr st := by
  intro n
  induction n using Nat.strongRecOn with
  | _ n ih =>
    intro fr st hi
    obtain ⟨fr', hle, hx⟩ := hs n fr st hi
    exact hR fr fr' st hle (hx R fun m fr st hm hi => ih m hm fr st hi)
 exact key n fr st h0
def T.sp {α : Type} (A : CallP) : T α → (α → Prop) → Prop
 | .ret a, K => K a
 | .ite c t e, K => SIf c (t.sp A K) (e.sp A K)
 | .elem o k, K => SEx o fun x => (k x).sp A K
 | .byte o k, K => SEx o fun x => (k x).sp A K
 | .els o k, K => SEx o fun x => (k x).sp A K
 | .bys o k, K => SEx o fun x => (k x).sp A K
 | .obj o k, K => SEx o fun x => (k x).sp A K
 | .optc o n k, K => SOpt o (n.sp A K) fun x => (k x).sp A K
 | .chk c k, K => SChk c (k.sp A K)
 | .wrap kd n k, K => SWrap kd n fun x => (k x).sp A K
 | .any k, K => SAny fun r => (k r).sp A K
 | .same v u k, K => SSame v u (k.sp A K)
 | .call f as h k, K => SCall A f as h fun r h' => (k r h').sp A K
 | .fail, _ => False
theorem T.sp_wp {α : Type} {A : CallP} (hA : A.Mono) (t : T α) : ∀ (K : α → Prop), t.sp A K → t.wp A K := by
 induction t with
 | ret a => exact fun K h => h
 | ite c t e iht ihe => exact fun K h => ⟨fun hc => iht K (h.t hc), fun hc => ihe K (h.f hc)⟩
 | elem o k ih => exact fun K ⟨⟨x, hx, hk⟩⟩ => ⟨x, hx, ih x K hk⟩
 | byte o k ih => exact fun K ⟨⟨x, hx, hk⟩⟩ => ⟨x, hx, ih x K hk⟩
 | els o k ih => exact fun K ⟨⟨x, hx, hk⟩⟩ => ⟨x, hx, ih x K hk⟩
 | bys o k ih => exact fun K ⟨⟨x, hx, hk⟩⟩ => ⟨x, hx, ih x K hk⟩
 | obj o k ih => exact fun K ⟨⟨x, hx, hk⟩⟩ => ⟨x, hx, ih x K hk⟩
 | optc o n k ihn ih => exact fun K h => ⟨fun hn => ihn K (h.n hn), fun x hx => ih x K (h.s x hx)⟩
 | chk c k ih => exact fun K h => ⟨h.c, ih K h.k⟩
 | wrap kd n k ih => exact fun K h => .inl (ih _ K h.h)
 | any k ih => exact fun K h r => ih r K (h.h r)
 | same v u k ih => exact fun K h => ⟨h.e, ih K h.k⟩
 | call f as hh k ih => exact fun K h => hA _ _ _ _ _ (fun r h' hr => ih r h' K hr) h.h
 | fail => exact fun K h => h
def elemsOfS (sz : Nat) (st : St) (v : V) (k : List (List V) → T R) : T R :=
 match v with
 | .ms key sz' s n => if sz' = sz then .obj (st.get key) fun o => match o with
    | .arr sz'' es => if sz'' = sz then .chk (decide (s + n ≤ es.length)) (.els (some ((es.drop s).take n)) k) else .fail
    | _ => .fail
   else .fail
 | v => elemsOf sz st v k
def doAppendS (m : SMode) (sz bytes : Nat) (st : St) (s : V) (new : List (List V)) : T R :=
 match s with
 | .nils => .ite new.isEmpty (.ret (.nils, st)) (.chk (roomOk new.length bytes) (newSlice m sz new st))
 | .sl tok sz' es => if sz' = sz then .ite new.isEmpty (.ret (.sl tok sz es, st))
    (.chk (roomOk (es.length + new.length) bytes) <| .els (deepElems new) fun ds => match tok with
      | some k => .obj (st.get k) fun o => match o with
        | .spare => .els (some (es ++ ds)) fun es' => .ret (.sl (some ((st.remove k).newKey k.isG)) sz es', (st.remove k).push k.isG .spare)
        | _ => .fail
      | none => .fail)
   else .fail
 | .ms k sz' off len => if sz' = sz then .ite new.isEmpty (.ret (.ms k sz off len, st))
    (.chk (roomOk (len + new.length) bytes) <| .els (ownElems k.isG new) fun ds => .obj (st.get k) fun o => match o with
      | .arr sz'' es => if sz'' = sz then
         .chk (decide (off + len ≤ es.length)) <| .ite (decide (off + len + ds.length ≤ es.length))
          (.els (some (es.take (off + len) ++ ds ++ es.drop (off + len + ds.length))) fun es' => .ret (.ms k sz off (len + ds.length), st.set k (.arr sz es')))
          (.els (some ((es.take (off + len)).drop off ++ ds)) fun es' => .ret (.ms ((st.remove k).newKey k.isG) sz 0 (len + ds.length), (st.remove k).push k.isG (.arr sz es')))
        else .fail
      | _ => .fail)
   else .fail
 | _ => .fail
theorem elemsOfS_wp {A : CallP} {sz : Nat} {st : St} {v : V} {k k' : List (List V) → T R} {K : R → Prop} (hk : ∀ es, (k es).wp A K → (k' es).wp A K) (h : (elemsOfS sz st v k).wp A K) : (elemsOf sz st v k').wp A K := by
 cases v <;> simp only [elemsOfS, elemsOf] at h ⊢
 case nils => exact hk _ h
 case sl tok sz' es =>
  split at h
  · rename_i hs; rw [if_pos hs]; exact hk _ h
  · exact h.elim
 case ms key sz' s n =>
  split at h
  · rename_i hs
    rw [if_pos hs]
    obtain ⟨o, ho, h⟩ := h
    refine ⟨o, ho, ?_⟩
    cases o <;> (try exact h.elim)
    dsimp only at h ⊢
    split at h
    · rename_i hz
      rw [if_pos hz]
      obtain ⟨h1, e, he, h2⟩ := h
      cases he
      exact ⟨h1, hk _ h2⟩
    · exact h.elim
  · exact h.elim
 case s x =>
  split at h
  · rename_i hs; rw [if_pos hs]; exact hk _ h
  · exact h.elim
 all_goals exact h.elim
theorem doAppendS_wp {A : CallP} {m : SMode} {sz bytes : Nat} {st : St} {s : V} {new : List (List V)} {K : R → Prop} (h : (doAppendS m sz bytes st s new).wp A K) : (doAppend m sz bytes st s new).wp A K := by
 cases s <;> simp only [doAppendS] at h <;> (try exact h.elim)
 case nils =>
  cases new with
  | nil => exact h.1 rfl
  | cons e r => exact h.2 rfl
 case sl tok sz' es =>
  simp only [doAppend]
  split at h
  case isFalse => exact h.elim
  rename_i hs
  rw [if_pos hs]
  cases new with
  | nil => exact h.1 rfl
  | cons e r =>
    obtain ⟨h1, ds, h2, h3⟩ := h.2 rfl
    refine ⟨h1, ds, h2, ?_⟩
    cases tok with
    | none => exact h3
    | some k =>
      obtain ⟨o, ho, h3⟩ := h3
      refine ⟨o, ho, ?_⟩
      cases o <;> (try exact h3.elim)
      obtain ⟨e', he, h4⟩ := h3
      cases he
      exact h4
 case ms k sz' off len =>
  simp only [doAppend]
  split at h
  case isFalse => exact h.elim
  rename_i hs
  rw [if_pos hs]
  cases new with
  | nil => exact h.1 rfl
  | cons e r =>
    obtain ⟨h1, ds, h2, o, ho, h3⟩ := h.2 rfl
    refine ⟨h1, ds, h2, o, ho, ?_⟩
    cases o <;> (try exact h3.elim)
    dsimp only at h3 ⊢
    split at h3
    case isFalse => exact h3.elim
    rename_i hz
    rw [if_pos hz]
    obtain ⟨h4, h5, h6⟩ := h3
    refine ⟨h4, fun hc => ?_, fun hc => ?_⟩
    · obtain ⟨e', he, h7⟩ := h5 hc
      cases he
      exact h7
    · obtain ⟨e', he, h7⟩ := h6 hc
      cases he
      exact h7
def stepS (o : AOp) (fr : Fr) (st : St) : T R :=
 match o with
 | .load n a => match a.ev fr with
   | .p k off => .obj (st.get k) fun o => match o with
     | .cs c => .optc (ldCells c off n) .fail fun v => .ret (v, st)
     | _ => .fail
   | .pa k sz ix off => .obj (st.get k) fun o => match o with
     | .arr sz' es => if sz' = sz then .elem es[ix]? fun e => .optc (ldCells e off n) .fail fun v => .ret (v, st) else .fail
     | _ => .fail
   | .pc cs off => .optc (ldCells cs off n) .fail fun v => .ret (v, st)
   | _ => .fail
 | .fld off n x => match x.ev fr with
   | .agg cs => .optc (ldCells cs off n) .fail fun v => .ret (v, st)
   | _ => .fail
 | .ixa len sz n x i => match x.ev fr, i.ev fr with
   | .agg cs, .i _ j => .chk (idxOk j len) <| .optc (ldCells cs (j.toNat * sz) n) .fail fun v => .ret (v, st)
   | _, _ => .fail
 | .append m sz bytes s x => elemsOfS sz st (x.ev fr) fun new => doAppendS m sz bytes st (s.ev fr) new
 | .b2s x => elemsOfS 1 st (x.ev fr) fun es => .bys (bytesOf es) fun y => .ret (.s y, st)
 | .copy sz d x => elemsOfS sz st (x.ev fr) fun src => match d.ev fr with
   | .ms k sz' off len => if sz' = sz then .els (ownElems k.isG (src.take len)) fun ds => .obj (st.get k) fun o => match o with
      | .arr sz'' es => if sz'' = sz then
         .chk (decide (off + len ≤ es.length)) <| .els (some (es.take off ++ ds ++ es.drop (off + ds.length))) fun es' => .ret (.i .i64 (ds.length : Nat), st.set k (.arr sz es'))
        else .fail
      | _ => .fail
     else .fail
   | _ => .fail
 | .mnmx max xs => match Opd.evs fr xs with
   | v :: r => .optc (mnmxFold max v r) .fail fun v => .ret (v, st)
   | [] => .fail
 | .slsl sz x lo hi mx => match x.ev fr with
   | .sl tok sz' es => if sz' = sz then match mx with
      | none => match Opd.evo fr hi with
        | none => T.opt (boundOr (Opd.evo fr lo) 0) fun l => .chk (decide (0 ≤ l) && decide (l ≤ (es.length : Int))) <| .els (some (es.drop l.toNat)) fun es => .ret (.sl tok sz es, st)
        | some v => T.opt (intOf1 v) fun h => T.opt (boundOr (Opd.evo fr lo) 0) fun l =>
          .chk (decide (0 ≤ l) && decide (l ≤ h) && decide (h ≤ (es.length : Int))) <| .els (some ((es.take h.toNat).drop l.toNat)) fun es => .ret (.sl none sz es, st)
      | some _ => .fail
     else .fail
   | _ => step (.slsl sz x lo hi mx) fr st
 | .callv f args => match f.ev fr with
   | .fn g first cap => .elem (passes (first ++ Opd.evs fr args ++ cap)) fun vs => .call g vs st.g fun r h => .ret (r, ⟨h, st.l⟩)
   | _ => .fail
 | .store n a x => if (x.ev fr).sto = true ∧ (x.ev fr).cells.length = n then match a.ev fr with
    | .p k off => T.opt (ownG k.isG (x.ev fr).cells) fun vs => .obj (st.get k) fun o => match o with
      | .cs c => .chk (stFits c off vs) <| .elem (some (stCells c off vs)) fun c' => .ret (.tup [], st.set k (.cs c'))
      | _ => .fail
    | .pa k sz ix off => T.opt (ownG k.isG (x.ev fr).cells) fun vs => .obj (st.get k) fun o => match o with
      | .arr sz' es => if sz' = sz then .elem es[ix]? fun e => .chk (stFits e off vs) <| .els (some (es.set ix (stCells e off vs))) fun es' => .ret (.tup [], st.set k (.arr sz es')) else .fail
      | _ => .fail
    | _ => .fail
   else .fail
 | o => step o fr st
theorem opt_sp' {β : Type} {A : CallP} {o : Option V} {k : V → T β} {K : β → Prop} (h : (T.optc o .fail k).wp A K) : (T.opt o k).wp A K := by
 cases o with
 | none => exact h.1 rfl
 | some x => exact h.2 x rfl
theorem stepS_wp {A : CallP} {o : AOp} {fr : Fr} {st : St} {K : R → Prop} (h : (stepS o fr st).wp A K) : (step o fr st).wp A K := by
 cases o
 case load n a =>
  simp only [stepS] at h
  simp only [step]
  generalize a.ev fr = v at h ⊢
  cases v <;> (try exact h)
  case p k off =>
   obtain ⟨o, ho, h⟩ := h
   refine ⟨o, ho, ?_⟩
   cases o <;> first | exact h | exact opt_sp' h
  case pa k sz ix off =>
   obtain ⟨o, ho, h⟩ := h
   refine ⟨o, ho, ?_⟩
   cases o <;> (try exact h)
   dsimp only at h ⊢
   split at h
   · rename_i hs
     rw [if_pos hs]
     obtain ⟨e, he, h⟩ := h
     exact ⟨e, he, opt_sp' h⟩
   · exact h.elim
  case pc cs off => exact opt_sp' h
 case fld off n x =>
  simp only [stepS] at h
  simp only [step]
  generalize x.ev fr = v at h ⊢
  cases v <;> (try exact h)
  exact opt_sp' h
 case ixa len sz n x i =>
  simp only [stepS] at h
  simp only [step]
  generalize x.ev fr = v at h ⊢
  generalize i.ev fr = u at h ⊢
  cases v <;> cases u <;> (try exact h)
  exact ⟨h.1, opt_sp' h.2⟩
 case append m sz bytes s x =>
  simp only [stepS] at h
  simp only [step]
  exact elemsOfS_wp (fun es h => doAppendS_wp h) h
 case b2s x =>
  simp only [stepS] at h
  simp only [step]
  exact elemsOfS_wp (fun es h => h) h
 case copy sz d x =>
  simp only [stepS] at h
  simp only [step]
  refine elemsOfS_wp (fun src h => ?_) h
  generalize d.ev fr = v at h ⊢
  cases v <;> (try exact h.elim)
  dsimp only at h ⊢
  split at h
  case isFalse => exact h.elim
  rename_i hs
  rw [if_pos hs]
  obtain ⟨ds, h1, o, ho, h⟩ := h
  refine ⟨ds, h1, o, ho, ?_⟩
  cases o <;> (try exact h.elim)
  dsimp only at h ⊢
  split at h
  case isFalse => exact h.elim
  rename_i hz
  rw [if_pos hz]
  obtain ⟨h2, e, he, h3⟩ := h
  cases he
  exact ⟨h2, h3⟩
 case mnmx max xs =>
  simp only [stepS] at h
  simp only [step]
  generalize Opd.evs fr xs = vs at h ⊢
  cases vs with
  | nil => exact h
  | cons v r => exact opt_sp' h
 case slsl sz x lo hi mx =>
  simp only [stepS] at h
  split at h
  case h_2 => exact h
  rename_i tok sz' es hx
  simp only [step, hx]
  split at h
  case isFalse => exact h.elim
  rename_i hs
  rw [if_pos hs]
  cases mx with
  | some q => exact h.elim
  | none =>
    dsimp only at h ⊢
    generalize Opd.evo fr hi = w at h ⊢
    cases w with
    | none =>
      dsimp only at h ⊢
      cases hb : boundOr (Opd.evo fr lo) 0 with
      | none => rw [hb] at h; exact h.elim
      | some l =>
        rw [hb] at h
        obtain ⟨h1, e, h2, h3⟩ := h
        cases h2
        exact ⟨h1, h3⟩
    | some v =>
      dsimp only at h ⊢
      cases hi : intOf1 v with
      | none => rw [hi] at h; exact h.elim
      | some u =>
      cases hb : boundOr (Opd.evo fr lo) 0 with
      | none => rw [hi, hb] at h; exact h.elim
      | some l =>
        rw [hi, hb] at h
        obtain ⟨h1, e, h2, h3⟩ := h
        cases h2
        exact ⟨h1, h3⟩
 case callv f args =>
  simp only [stepS] at h
  simp only [step]
  generalize f.ev fr = v at h ⊢
  cases v <;> (try exact h)
  obtain ⟨vs, h1, h2⟩ := h
  dsimp only
  rw [h1]
  exact h2
 case store n a x =>
  simp only [stepS] at h
  simp only [step]
  generalize x.ev fr = u at h ⊢
  generalize a.ev fr = v at h ⊢
  split at h
  case isFalse => exact h.elim
  rename_i hs
  rw [if_pos hs]
  cases v <;> (try exact h.elim)
  case p k off =>
   dsimp only at h ⊢
   cases hv : ownG k.isG u.cells with
   | none => rw [hv] at h; exact h.elim
   | some vs =>
     rw [hv] at h
     obtain ⟨o, ho, h⟩ := h
     refine ⟨o, ho, ?_⟩
     cases o <;> (try exact h.elim)
     obtain ⟨h1, c', h2, h3⟩ := h
     cases h2
     dsimp only
     rw [h1]
     exact h3
  case pa k sz ix off =>
   dsimp only at h ⊢
   cases hv : ownG k.isG u.cells with
   | none => rw [hv] at h; exact h.elim
   | some vs =>
     rw [hv] at h
     obtain ⟨o, ho, h⟩ := h
     refine ⟨o, ho, ?_⟩
     cases o <;> (try exact h.elim)
     dsimp only at h ⊢
     split at h
     case isFalse => exact h.elim
     rename_i hz
     rw [if_pos hz]
     obtain ⟨e, he, h1, c', h2, h3⟩ := h
     cases h2
     refine ⟨e, he, ?_⟩
     show T.wp A (match stFits e off vs with | true => _ | false => _) K
     rw [h1]
     exact h3
 all_goals exact h
def runOpsS : List AOper → Fr → St → T (Fr × St)
 | [], fr, st => .ret (fr, st)
 | o :: rest, fr, st =>
   match o.guard with
   | none => (stepS o.op fr st).bind fun x => match x with
     | (v, st) => fr.after o.dst v o.kill fun fr => runOpsS rest fr st
   | some (t, want) => match fr.get t with
     | .b x => match want with
       | true => .ite x
         (fr.cut [t] fun r => (stepS o.op ((t, .b true) :: r) st).bind fun x => match x with
           | (v, st) => Fr.after ((t, .b true) :: r) o.dst v o.kill fun fr => runOpsS rest fr st)
         (fr.cut [t] fun r => Fr.after ((t, .b false) :: r) o.dst (.tup []) o.kill fun fr => runOpsS rest fr st)
       | false => .ite x
         (fr.cut [t] fun r => Fr.after ((t, .b true) :: r) o.dst (.tup []) o.kill fun fr => runOpsS rest fr st)
         (fr.cut [t] fun r => (stepS o.op ((t, .b false) :: r) st).bind fun x => match x with
           | (v, st) => Fr.after ((t, .b false) :: r) o.dst v o.kill fun fr => runOpsS rest fr st)
     | .tup _ => fr.after o.dst (.tup []) o.kill fun fr => runOpsS rest fr st
     | _ => .fail
theorem runOpsS_wp {A : CallP} (hA : A.Mono) : ∀ (ops : List AOper) (fr : Fr) (st : St) (K : Fr × St → Prop), (runOpsS ops fr st).wp A K → (runOps ops fr st).wp A K
 | [], fr, st, K, h => h
 | o :: rest, fr, st, K, h => by
   have one : ∀ {fr0 : Fr}, ((stepS o.op fr0 st).bind fun x => match x with
    | (v, st) => fr0.after o.dst v o.kill fun fr => runOpsS rest fr st).wp A K → ((step o.op fr0 st).bind fun x => match x with
    | (v, st) => fr0.after o.dst v o.kill fun fr => runOps rest fr st).wp A K := by
    intro fr0 h
    rw [T.wp_bind] at h ⊢
    refine stepS_wp ?_
    revert h
    refine T.wp_mono hA ?_
    rintro ⟨v, st⟩ h
    dsimp only at h ⊢
    rw [Fr.after_eq] at h ⊢
    exact runOpsS_wp hA rest _ _ K h
   have two : ∀ {fr0 : Fr}, (fr0.after o.dst (.tup []) o.kill fun fr => runOpsS rest fr st).wp A K → (fr0.after o.dst (.tup []) o.kill fun fr => runOps rest fr st).wp A K := by
    intro fr0 h
    rw [Fr.after_eq] at h ⊢
    exact runOpsS_wp hA rest _ _ K h
   obtain ⟨dst, op, g, kill⟩ := o
   cases g with
   | none => exact one h
   | some q =>
     obtain ⟨t, want⟩ := q
     simp only [runOpsS] at h
     simp only [runOps]
     generalize fr.get t = v at h ⊢
     cases v <;> (try exact h)
     case b x =>
      cases want
      · refine ⟨fun hc => ?_, fun hc => ?_⟩
        · have h := h.1 hc
          rw [Fr.cut_eq] at h ⊢
          exact two h
        · have h := h.2 hc
          rw [Fr.cut_eq] at h ⊢
          exact one h
      · refine ⟨fun hc => ?_, fun hc => ?_⟩
        · have h := h.1 hc
          rw [Fr.cut_eq] at h ⊢
          exact one h
        · have h := h.2 hc
          rw [Fr.cut_eq] at h ⊢
          exact two h
     case tup vs => exact two h
def runDS : List DOper → List DOper → Fr → St → T (Fr × St)
 | _, [], fr, st => .ret (fr, st)
 | done, d :: rest, fr, st => gated d.o.guard fr
   (fun fr => (stepS d.o.op fr st).bind fun x => match x with
     | (v, st) => fr.after d.o.dst v [] fun fr => recheck d.re done fr st (runDS (d :: done) rest fr st))
   (fun fr => fr.after d.o.dst (.tup []) [] fun fr => runDS (d :: done) rest fr st)
theorem recheck_mono {α : Type} {A : CallP} (hA : A.Mono) {re : List Nat} {k k' : T α} {K K' : α → Prop} : ∀ {ds : List DOper} {fr : Fr} {st : St}, (k.wp A K → k'.wp A K') → (recheck re ds fr st k).wp A K → (recheck re ds fr st k').wp A K'
 | [], fr, st, hk, h => hk h
 | p :: ps, fr, st, hk, h => by
   simp only [recheck] at h ⊢
   split at h
   · split at h
     · rw [T.wp_bind] at h ⊢
       refine T.wp_mono hA ?_ h
       intro x hx
       split at hx
       · exact ⟨hx.1, recheck_mono hA hk hx.2⟩
       · exact recheck_mono hA hk hx
     · exact recheck_mono hA hk h
     · exact h
   · exact recheck_mono hA hk h
theorem gated_mono {α : Type} {A : CallP} {g : Option (Nat × Bool)} {fr : Fr} {y y' n n' : Fr → T α} {K K' : α → Prop} (hy : ∀ fr, (y fr).wp A K → (y' fr).wp A K') (hn : ∀ fr, (n fr).wp A K → (n' fr).wp A K')
 (h : (gated g fr y n).wp A K) : (gated g fr y' n').wp A K' := by
 unfold gated at h ⊢
 split at h
 · exact hy _ h
 · split at h
   · split at h
     · refine ⟨fun hc => ?_, fun hc => ?_⟩
       · have h := h.1 hc
         rw [Fr.cut_eq] at h ⊢
         exact hy _ h
       · have h := h.2 hc
         rw [Fr.cut_eq] at h ⊢
         exact hn _ h
     · refine ⟨fun hc => ?_, fun hc => ?_⟩
       · have h := h.1 hc
         rw [Fr.cut_eq] at h ⊢
         exact hn _ h
       · have h := h.2 hc
         rw [Fr.cut_eq] at h ⊢
         exact hy _ h
   · exact hn _ h
   · exact h
theorem runDS_wp {A : CallP} (hA : A.Mono) : ∀ (ds done : List DOper) (fr : Fr) (st : St) (K : Fr × St → Prop), (runDS done ds fr st).wp A K → (runD done ds fr st).wp A K
 | [], done, fr, st, K, h => h
 | d :: rest, done, fr, st, K, h => by
   simp only [runDS] at h
   simp only [runD]
   refine gated_mono (fun fr h => ?_) (fun fr h => ?_) h
   · rw [T.wp_bind] at h ⊢
     refine stepS_wp ?_
     refine T.wp_mono hA ?_ h
     rintro ⟨v, st⟩ h
     dsimp only at h ⊢
     rw [Fr.after_eq] at h ⊢
     exact recheck_mono hA (fun h => runDS_wp hA rest _ _ _ K h) h
   · rw [Fr.after_eq] at h ⊢
     exact runDS_wp hA rest _ _ _ K h
def spC (A : CallP) : AC → (Ex → Fr → St → Prop) → Fr → St → Prop
 | .skip, Q, fr, st => Q .normal fr st
 | .reg ops, Q, fr, st => (runOpsS ops fr st).sp A (regK Q)
 | .dreg ds kill, Q, fr, st => ((runDS [] ds fr st).bind (cutT kill)).sp A (regK Q)
 | .seq a b, Q, fr, st => spC A a (seqK (spC A b Q) Q) fr st
 | .cond c a b, Q, fr, st => match c.ev fr with
   | .b x => SIf x (spC A a Q fr st) (spC A b Q fr st)
   | _ => False
 | .blk id b, Q, fr, st => spC A b (blkK id Q) fr st
 | .loop b, Q, fr, st => SLoop (fun R => spC A b (seqK R Q)) fr st
 | .exit id, Q, fr, st => Q (.exit id) fr st
 | .ret, Q, fr, st => Q .ret fr st
 | .no, _, _, _ => False
theorem spC_wp {A : CallP} (hA : A.Mono) : ∀ (c : AC) (Q Q' : Ex → Fr → St → Prop) (fr : Fr) (st : St), spC A c Q fr st → (∀ e fr st, Q e fr st → Q' e fr st) → wpC A c Q' fr st
 | .skip, Q, Q', fr, st, h, hq => hq _ _ _ h
 | .reg ops, Q, Q', fr, st, h, hq => T.wp_mono hA (fun ⟨_, _⟩ h => hq _ _ _ h) (runOpsS_wp hA ops fr st _ (T.sp_wp hA _ _ h))
 | .dreg ds kill, Q, Q', fr, st, h, hq => by
   refine T.wp_mono hA (fun ⟨_, _⟩ h => hq _ _ _ h) (?_ : T.wp A _ (regK Q))
   simp only [spC] at h
   have h := T.sp_wp hA _ _ h
   rw [T.wp_bind] at h ⊢
   exact runDS_wp hA _ _ _ _ _ h
 | .seq a b, Q, Q', fr, st, h, hq => by
   refine spC_wp hA a _ _ fr st h ?_
   intro e fr st h
   cases e with
   | normal => exact spC_wp hA b _ _ fr st h hq
   | exit id => exact hq _ _ _ h
   | ret => exact hq _ _ _ h
 | .cond c a b, Q, Q', fr, st, h, hq => by
   simp only [spC] at h
   simp only [wpC]
   split at h
   · rename_i x hx
     rw [hx]
     exact ⟨fun hc => spC_wp hA a _ _ _ _ (h.t hc) hq, fun hc => spC_wp hA b _ _ _ _ (h.f hc) hq⟩
   · exact h.elim
 | .blk id b, Q, Q', fr, st, h, hq => by
   refine spC_wp hA b _ _ fr st h ?_
   intro e fr st h
   cases e with
   | normal => exact hq _ _ _ h
   | exit id' =>
     simp only [blkK] at h ⊢
     split
     · rename_i hi; rw [if_pos hi] at h; exact hq _ _ _ h
     · rename_i hi; rw [if_neg hi] at h; exact hq _ _ _ h
   | ret => exact hq _ _ _ h
 | .loop b, Q, Q', fr, st, h, hq => by
   intro R hR
   refine h.h R fun fr fr' st hl hx => hR fr fr' st hl ?_
   refine spC_wp hA b _ _ fr' st hx ?_
   intro e fr st h
   cases e with
   | normal => exact h
   | exit id => exact hq _ _ _ h
   | ret => exact hq _ _ _ h
 | .exit id, Q, Q', fr, st, h, hq => hq _ _ _ h
 | .ret, Q, Q', fr, st, h, hq => hq _ _ _ h
 | .no, _, _, _, _, h, _ => h.elim
theorem T.sp_mono {α : Type} {A : CallP} (hA : A.Mono) (t : T α) : ∀ {K K' : α → Prop}, (∀ a, K a → K' a) → t.sp A K → t.sp A K' := by
 induction t with
 | ret a => exact fun h hk => h _ hk
 | ite c t e iht ihe => exact fun h hk => ⟨fun hc => iht h (hk.t hc), fun hc => ihe h (hk.f hc)⟩
 | elem o k ih => exact fun h ⟨⟨x, hx, hk⟩⟩ => ⟨⟨x, hx, ih x h hk⟩⟩
 | byte o k ih => exact fun h ⟨⟨x, hx, hk⟩⟩ => ⟨⟨x, hx, ih x h hk⟩⟩
 | els o k ih => exact fun h ⟨⟨x, hx, hk⟩⟩ => ⟨⟨x, hx, ih x h hk⟩⟩
 | bys o k ih => exact fun h ⟨⟨x, hx, hk⟩⟩ => ⟨⟨x, hx, ih x h hk⟩⟩
 | obj o k ih => exact fun h ⟨⟨x, hx, hk⟩⟩ => ⟨⟨x, hx, ih x h hk⟩⟩
 | optc o n k ihn ih => exact fun h hk => ⟨fun hn => ihn h (hk.n hn), fun x hx => ih x h (hk.s x hx)⟩
 | chk c k ih => exact fun h hk => ⟨hk.c, ih h hk.k⟩
 | wrap kd n k ih => exact fun h hk => ⟨ih _ h hk.h⟩
 | any k ih => exact fun h hk => ⟨fun r => ih r h (hk.h r)⟩
 | same v u k ih => exact fun h hk => ⟨hk.e, ih h hk.k⟩
 | call f as hh k ih => exact fun h hk => ⟨hA _ _ _ _ _ (fun r h' hr => ih r h' h hr) hk.h⟩
 | fail => exact fun _ hk => hk
theorem spC_mono {A : CallP} (hA : A.Mono) : ∀ (c : AC) (Q Q' : Ex → Fr → St → Prop) (fr : Fr) (st : St), spC A c Q fr st → (∀ e fr st, Q e fr st → Q' e fr st) → spC A c Q' fr st
 | .skip, Q, Q', fr, st, h, hq => hq _ _ _ h
 | .reg ops, Q, Q', fr, st, h, hq => T.sp_mono hA _ (fun ⟨_, _⟩ h => hq _ _ _ h) h
 | .dreg ds kill, Q, Q', fr, st, h, hq => T.sp_mono hA _ (fun ⟨_, _⟩ h => hq _ _ _ h) h
 | .seq a b, Q, Q', fr, st, h, hq => by
   refine spC_mono hA a _ _ fr st h ?_
   intro e fr st h
   cases e with
   | normal => exact spC_mono hA b _ _ fr st h hq
   | exit id => exact hq _ _ _ h
   | ret => exact hq _ _ _ h
 | .cond c a b, Q, Q', fr, st, h, hq => by
   simp only [spC] at h ⊢
   split at h
   · exact ⟨fun hc => spC_mono hA a _ _ _ _ (h.t hc) hq, fun hc => spC_mono hA b _ _ _ _ (h.f hc) hq⟩
   · exact h.elim
 | .blk id b, Q, Q', fr, st, h, hq => by
   refine spC_mono hA b _ _ fr st h ?_
   intro e fr st h
   cases e with
   | normal => exact hq _ _ _ h
   | exit id' =>
     simp only [blkK] at h ⊢
     split
     · rename_i hi; rw [if_pos hi] at h; exact hq _ _ _ h
     · rename_i hi; rw [if_neg hi] at h; exact hq _ _ _ h
   | ret => exact hq _ _ _ h
 | .loop b, Q, Q', fr, st, h, hq => by
   refine ⟨fun R hR => h.h R fun fr fr' st hl hx => hR fr fr' st hl ?_⟩
   refine spC_mono hA b _ _ fr' st hx ?_
   intro e fr st h
   cases e with
   | normal => exact h
   | exit id => exact hq _ _ _ h
   | ret => exact hq _ _ _ h
 | .exit id, Q, Q', fr, st, h, hq => hq _ _ _ h
 | .ret, Q, Q', fr, st, h, hq => hq _ _ _ h
 | .no, _, _, _, _, h, _ => h.elim
theorem SLoop.un {P : Program} {b : AC} {Q : Ex → Fr → St → Prop} {fr : Fr} {st : St} (h : spC (ACall P) b (seqK (SLoop fun R => spC (ACall P) b (seqK R Q)) Q) fr st) : SLoop (fun R => spC (ACall P) b (seqK R Q)) fr st := by
 refine ⟨fun R hR => hR fr fr st (Fr.le_refl _) (spC_mono (ACall.mono P) b _ _ fr st h ?_)⟩
 intro e fr st hx
 cases e with
 | normal => exact hx.h R hR
 | exit id => exact hx
 | ret => exact hx
theorem fn_sp {P : Program} {f : Nat} {F : AFn} (hk : okFn P f F = true) {args : List V} (hn : args.length = F.nparams) {h : Heap} {K : V → Heap → Prop}
 (hw : spC (ACall P) F.body (retK F.results K) (paramFrame 0 args) (gst h)) : ACall P f args h K :=
 fn_ok hk hn (spC_wp (ACall.mono P) _ _ _ _ _ hw fun _ _ _ h => h)
end Go.Eng
/-
Symbolic runs whose memory and values are spelt out behind each operation: for laws that run from the empty heap.
-/
namespace Go.Eng
open Go
theorem SCall.app {A : CallP} {f : Nat} {as : List V} {h : Heap} {K : V → Heap → Prop} {X : Prop} (g : X → A f as h K) (x : X) : SCall A f as h K := ⟨g x⟩
def Key.fS {α : Type} (a : Key) (k : Key → α) : α :=
 match a with
 | .g n => k (.g n)
 | .l n => k (.l n)
def V.f1 {α : Type} (v : V) (k : V → α) : α :=
 match v with
 | .b x => k (.b x)
 | .i kd n => k (.i kd n)
 | .s x => k (.s x)
 | .nilp => k .nilp
 | .p a o => a.fS fun a => k (.p a o)
 | .pa a z ix o => a.fS fun a => k (.pa a z ix o)
 | .pc c o => k (.pc c o)
 | .nils => k .nils
 | .sl t z e => match t with
   | some a => a.fS fun a => k (.sl (some a) z e)
   | none => k (.sl none z e)
 | .ms a z u l => a.fS fun a => k (.ms a z u l)
 | .nilm => k .nilm
 | .m a => a.fS fun a => k (.m a)
 | .fn f a c => k (.fn f a c)
 | .nilf => k .nilf
 | .agg c => k (.agg c)
 | .tup c => k (.tup c)
 | .junk => k .junk
theorem Key.fS_eq {α : Type} (a : Key) (k : Key → α) : a.fS k = k a := by cases a <;> rfl
theorem V.f1_eq {α : Type} (v : V) (k : V → α) : v.f1 k = k v := by
 cases v <;> (try rfl)
 case sl t z e => cases t <;> simp only [V.f1, Key.fS_eq]
 all_goals simp only [V.f1, Key.fS_eq]
def cellsK {α : Type} : List V → (List V → α) → α
 | [], k => k []
 | v :: r, k => v.f1 fun v => cellsK r fun r => k (v :: r)
theorem cellsK_eq {α : Type} : ∀ (l : List V) (k : List V → α), cellsK l k = k l
 | [], _ => rfl
 | v :: r, k => by simp only [cellsK, V.f1_eq]; rw [cellsK_eq r]
def V.f2 {α : Type} (v : V) (k : V → α) : α :=
 match v with
 | .agg c => cellsK c fun c => k (.agg c)
 | .fn f a c => cellsK a fun a => cellsK c fun c => k (.fn f a c)
 | v => v.f1 k
theorem V.f2_eq {α : Type} (v : V) (k : V → α) : v.f2 k = k v := by
 cases v <;> simp only [V.f2, cellsK_eq, V.f1_eq]
def tupK {α : Type} : List V → (List V → α) → α
 | [], k => k []
 | v :: r, k => v.f2 fun v => tupK r fun r => k (v :: r)
theorem tupK_eq {α : Type} : ∀ (l : List V) (k : List V → α), tupK l k = k l
 | [], _ => rfl
 | v :: r, k => by simp only [tupK, V.f2_eq]; rw [tupK_eq r]
def V.f3 {α : Type} (v : V) (k : V → α) : α :=
 match v with
 | .tup c => tupK c fun c => k (.tup c)
 | v => v.f2 k
theorem V.f3_eq {α : Type} (v : V) (k : V → α) : v.f3 k = k v := by
 cases v <;> simp only [V.f3, tupK_eq, V.f2_eq]
def mapK {α : Type} : List (V × V) → (List (V × V) → α) → α
 | [], k => k []
 | q :: r, k => match q with
   | (a, v) => a.f1 fun a => v.f2 fun v => mapK r fun r => k ((a, v) :: r)
theorem mapK_eq {α : Type} : ∀ (l : List (V × V)) (k : List (V × V) → α), mapK l k = k l
 | [], _ => rfl
 | (a, v) :: r, k => by simp only [mapK, V.f1_eq, V.f2_eq]; rw [mapK_eq r]
def Obj.fS {α : Type} (o : Obj) (k : Obj → α) : α :=
 match o with
 | .cs c => cellsK c fun c => k (.cs c)
 | .arr z es => k (.arr z es)
 | .spare => k .spare
 | .mp kd es => k (.mp kd es)
theorem Obj.fS_eq {α : Type} (o : Obj) (k : Obj → α) : o.fS k = k o := by cases o <;> simp only [Obj.fS, cellsK_eq, mapK_eq]
def objsK {α : Type} : List (Nat × Obj) → (List (Nat × Obj) → α) → α
 | [], k => k []
 | q :: r, k => match q with
   | (n, o) => o.fS fun o => objsK r fun r => k ((n, o) :: r)
theorem objsK_eq {α : Type} : ∀ (l : List (Nat × Obj)) (k : List (Nat × Obj) → α), objsK l k = k l
 | [], _ => rfl
 | (n, o) :: r, k => by simp only [objsK, Obj.fS_eq]; rw [objsK_eq r]
def St.fS {α : Type} (st : St) (k : St → α) : α :=
 match st with
 | ⟨⟨x, a⟩, ⟨y, b⟩⟩ => objsK a fun a => objsK b fun b => k ⟨⟨x, a⟩, ⟨y, b⟩⟩
theorem St.fS_eq {α : Type} (st : St) (k : St → α) : st.fS k = k st := by
 obtain ⟨⟨x, a⟩, ⟨y, b⟩⟩ := st
 simp only [St.fS, objsK_eq]
def Fr.fS {α : Type} : Fr → (Fr → α) → α
 | [], k => k []
 | q :: r, k => match q with
   | (n, v) => v.f3 fun v => Fr.fS r fun r => k ((n, v) :: r)
theorem Fr.fS_eq {α : Type} : ∀ (l : Fr) (k : Fr → α), Fr.fS l k = k l
 | [], _ => rfl
 | (n, o) :: r, k => by simp only [Fr.fS, V.f3_eq]; rw [Fr.fS_eq r]
def AOp.loud : AOp → Bool
 | .alloc _ _ => true
 | .box _ _ => true
 | .bsl _ _ _ _ _ => true
 | .store _ _ _ => true
 | .s2b _ _ => true
 | .mkmap _ _ => true
 | .mksl _ _ _ _ _ _ => true
 | .mupd _ _ _ _ => true
 | .call _ _ => true
 | .callv _ _ => true
 | .append _ _ _ _ _ => true
 | .copy _ _ _ => true
 | .delete _ _ _ => true
 | .clear _ _ _ => true
 | _ => false
def outFs {α : Type} (o : AOp) (x : R) (k : V → St → α) : α :=
 match x with
 | (v, st) => match o.loud with
  | true => st.fS fun st => v.f3 fun v => k v st
  | false => v.f3 fun v => k v st
theorem outFs_eq {α : Type} (o : AOp) (v : V) (st : St) (k : V → St → α) : outFs o (v, st) k = k v st := by
 unfold outFs
 cases o.loud <;> simp only [V.f3_eq, St.fS_eq]
def stepFs (o : AOp) (fr : Fr) (st : St) : T R :=
 match o with
 | .mnmx max xs => stepS (.mnmx max xs) fr st
 | .append m sz bytes s x => stepS (.append m sz bytes s x) fr st
 | .slsl sz x lo hi mx => stepS (.slsl sz x lo hi mx) fr st
 | .copy sz d x => stepS (.copy sz d x) fr st
 | .b2s x => stepS (.b2s x) fr st
 | o => step o fr st
theorem stepF_wp {A : CallP} {o : AOp} {fr : Fr} {st : St} {K : R → Prop} (h : (stepFs o fr st).wp A K) : (step o fr st).wp A K := by
 cases o <;> first | exact h | exact stepS_wp h
noncomputable def T.sq {α : Type} (A : CallP) (t : T α) : (α → Prop) → Prop :=
 T.rec (motive := fun _ => (α → Prop) → Prop) (fun a K => K a) (fun c _ _ it ie K => SIf c (it K) (ie K)) (fun o _ ih K => SEx o fun x => ih x K) (fun o _ ih K => SEx o fun x => ih x K) (fun o _ ih K => SEx o fun x => ih x K)
  (fun o _ ih K => SEx o fun x => ih x K) (fun o _ ih K => SEx o fun x => ih x K) (fun o _ _ ihn ih K => SOpt o (ihn K) fun x => ih x K) (fun c _ ih K => SChk c (ih K)) (fun kd n _ ih K => SWrap kd n fun x => ih x K) (fun _ ih K => SAny fun r => ih r K)
  (fun v u _ ih K => SSame v u (ih K)) (fun f as h _ ih K => SCall A f as h fun r h' => ih r h' K) (fun _ => False) t
theorem T.sq_eq {α : Type} (A : CallP) (t : T α) : ∀ K, t.sq A K = t.sp A K := by
 induction t with
 | ret a => exact fun K => rfl
 | ite c t e iht ihe => intro K; show SIf c (t.sq A K) (e.sq A K) = _; rw [iht, ihe]; rfl
 | elem o k ih => intro K; show (SEx o fun x => (k x).sq A K) = _; simp only [ih]; rfl
 | byte o k ih => intro K; show (SEx o fun x => (k x).sq A K) = _; simp only [ih]; rfl
 | els o k ih => intro K; show (SEx o fun x => (k x).sq A K) = _; simp only [ih]; rfl
 | bys o k ih => intro K; show (SEx o fun x => (k x).sq A K) = _; simp only [ih]; rfl
 | obj o k ih => intro K; show (SEx o fun x => (k x).sq A K) = _; simp only [ih]; rfl
 | optc o n k ihn ih => intro K; show (SOpt o (n.sq A K) fun x => (k x).sq A K) = _; simp only [ihn, ih]; rfl
 | chk c k ih => intro K; show SChk c (k.sq A K) = _; rw [ih]; rfl
 | wrap kd n k ih => intro K; show (SWrap kd n fun x => (k x).sq A K) = _; simp only [ih]; rfl
 | any k ih => intro K; show (SAny fun x => (k x).sq A K) = _; simp only [ih]; rfl
 | same v u k ih => intro K; show SSame v u (k.sq A K) = _; rw [ih]; rfl
 | call f as h k ih => intro K; show (SCall A f as h fun r h' => (k r h').sq A K) = _; simp only [ih]; rfl
 | fail => exact fun K => rfl
noncomputable def T.bq {α β : Type} (t : T α) (f : α → T β) : T β :=
 T.rec (motive := fun _ => T β) (fun a => f a) (fun c _ _ it ie => .ite c it ie) (fun o _ ih => .elem o ih) (fun o _ ih => .byte o ih) (fun o _ ih => .els o ih) (fun o _ ih => .bys o ih) (fun o _ ih => .obj o ih) (fun o _ _ ihn ih => .optc o ihn ih)
  (fun c _ ih => .chk c ih) (fun kd n _ ih => .wrap kd n ih) (fun _ ih => .any ih) (fun v u _ ih => .same v u ih) (fun g as h _ ih => .call g as h ih) .fail t
theorem T.bq_eq {α β : Type} (t : T α) (f : α → T β) : t.bq f = t.bind f := by
 induction t with
 | ret a => rfl
 | ite c t e iht ihe => show T.ite c (t.bq f) (e.bq f) = _; rw [iht, ihe]; rfl
 | elem o k ih => show (T.elem o fun x => (k x).bq f) = _; simp only [ih]; rfl
 | byte o k ih => show (T.byte o fun x => (k x).bq f) = _; simp only [ih]; rfl
 | els o k ih => show (T.els o fun x => (k x).bq f) = _; simp only [ih]; rfl
 | bys o k ih => show (T.bys o fun x => (k x).bq f) = _; simp only [ih]; rfl
 | obj o k ih => show (T.obj o fun x => (k x).bq f) = _; simp only [ih]; rfl
 | optc o n k ihn ih => show (T.optc o (n.bq f) fun x => (k x).bq f) = _; simp only [ihn, ih]; rfl
 | chk c k ih => show T.chk c (k.bq f) = _; rw [ih]; rfl
 | wrap kd n k ih => show (T.wrap kd n fun x => (k x).bq f) = _; simp only [ih]; rfl
 | any k ih => show (T.any fun x => (k x).bq f) = _; simp only [ih]; rfl
 | same v u k ih => show T.same v u (k.bq f) = _; rw [ih]; rfl
 | call g as h k ih => show (T.call g as h fun r h' => (k r h').bq f) = _; simp only [ih]; rfl
 | fail => rfl
abbrev RunF := Fr → St → T (Fr × St)
noncomputable def opF (o : AOper) (ih : RunF) : RunF := fun fr st =>
 match o.guard with
 | none => (stepFs o.op fr st).bq fun x => outFs o.op x fun v st => fr.after o.dst v o.kill fun fr => ih fr st
 | some (t, want) => match fr.get t with
   | .b x => match want with
     | true => .ite x
       (fr.cut [t] fun r => (stepFs o.op ((t, .b true) :: r) st).bq fun x => outFs o.op x fun v st => Fr.after ((t, .b true) :: r) o.dst v o.kill fun fr => ih fr st)
       (fr.cut [t] fun r => Fr.after ((t, .b false) :: r) o.dst (.tup []) o.kill fun fr => ih fr st)
     | false => .ite x
       (fr.cut [t] fun r => Fr.after ((t, .b true) :: r) o.dst (.tup []) o.kill fun fr => ih fr st)
       (fr.cut [t] fun r => (stepFs o.op ((t, .b false) :: r) st).bq fun x => outFs o.op x fun v st => Fr.after ((t, .b false) :: r) o.dst v o.kill fun fr => ih fr st)
   | .tup _ => fr.after o.dst (.tup []) o.kill fun fr => ih fr st
   | _ => .fail
noncomputable def runOpsF (l : List AOper) : RunF :=
 List.rec (motive := fun _ => RunF) (fun fr st => .ret (fr, st)) (fun o _ ih => opF o ih) l
theorem runOpsF_cons (o : AOper) (l : List AOper) : runOpsF (o :: l) = opF o (runOpsF l) := rfl
theorem runOpsF_wp {A : CallP} (hA : A.Mono) : ∀ (ops : List AOper) (fr : Fr) (st : St) (K : Fr × St → Prop), (runOpsF ops fr st).wp A K → (runOps ops fr st).wp A K
 | [], fr, st, K, h => h
 | o :: rest, fr, st, K, h => by
   have one : ∀ {fr0 : Fr}, ((stepFs o.op fr0 st).bq fun x => outFs o.op x fun v st => fr0.after o.dst v o.kill fun fr => runOpsF rest fr st).wp A K → ((step o.op fr0 st).bind fun x => match x with
    | (v, st) => fr0.after o.dst v o.kill fun fr => runOps rest fr st).wp A K := by
    intro fr0 h
    rw [T.bq_eq, T.wp_bind] at h
    rw [T.wp_bind]
    refine stepF_wp ?_
    revert h
    refine T.wp_mono hA ?_
    rintro ⟨v, st⟩ h
    dsimp only at h ⊢
    rw [outFs_eq, Fr.after_eq] at h
    rw [Fr.after_eq]
    exact runOpsF_wp hA rest _ _ K h
   have two : ∀ {fr0 : Fr}, (fr0.after o.dst (.tup []) o.kill fun fr => runOpsF rest fr st).wp A K → (fr0.after o.dst (.tup []) o.kill fun fr => runOps rest fr st).wp A K := by
    intro fr0 h
    rw [Fr.after_eq] at h ⊢
    exact runOpsF_wp hA rest _ _ K h
   rw [runOpsF_cons] at h
   obtain ⟨dst, op, g, kill⟩ := o
   cases g with
   | none => exact one h
   | some q =>
     obtain ⟨t, want⟩ := q
     simp only [opF] at h
     simp only [runOps]
     generalize fr.get t = v at h ⊢
     cases v <;> (try exact h)
     case b x =>
      cases want
      · refine ⟨fun hc => ?_, fun hc => ?_⟩
        · have h := h.1 hc
          rw [Fr.cut_eq] at h ⊢
          exact two h
        · have h := h.2 hc
          rw [Fr.cut_eq] at h ⊢
          exact one h
      · refine ⟨fun hc => ?_, fun hc => ?_⟩
        · have h := h.1 hc
          rw [Fr.cut_eq] at h ⊢
          exact one h
        · have h := h.2 hc
          rw [Fr.cut_eq] at h ⊢
          exact two h
     case tup vs => exact two h
abbrev RunD := List DOper → Fr → St → T (Fr × St)
noncomputable def dopF (d : DOper) (ih : RunD) : RunD := fun done fr st => gated d.o.guard fr
 (fun fr => (stepFs d.o.op fr st).bq fun x => outFs d.o.op x fun v st => fr.after d.o.dst v [] fun fr => recheck d.re done fr st (ih (d :: done) fr st))
 (fun fr => fr.after d.o.dst (.tup []) [] fun fr => ih (d :: done) fr st)
noncomputable def runDF (l : List DOper) : RunD :=
 List.rec (motive := fun _ => RunD) (fun _ fr st => .ret (fr, st)) (fun d _ ih => dopF d ih) l
theorem runDF_cons (o : DOper) (l : List DOper) : runDF (o :: l) = dopF o (runDF l) := rfl
theorem runDF_wp {A : CallP} (hA : A.Mono) : ∀ (ds done : List DOper) (fr : Fr) (st : St) (K : Fr × St → Prop), (runDF ds done fr st).wp A K → (runD done ds fr st).wp A K
 | [], done, fr, st, K, h => h
 | d :: rest, done, fr, st, K, h => by
   rw [runDF_cons] at h
   simp only [dopF] at h
   simp only [runD]
   refine gated_mono (fun fr h => ?_) (fun fr h => ?_) h
   · rw [T.bq_eq, T.wp_bind] at h
     rw [T.wp_bind]
     refine stepF_wp ?_
     refine T.wp_mono hA ?_ h
     rintro ⟨v, st⟩ h
     dsimp only at h ⊢
     rw [outFs_eq, Fr.after_eq] at h
     rw [Fr.after_eq]
     exact recheck_mono hA (fun h => runDF_wp hA rest _ _ _ K h) h
   · rw [Fr.after_eq] at h ⊢
     exact runDF_wp hA rest _ _ _ K h
abbrev RunC' := (Ex → Fr → St → Prop) → Fr → St → Prop
structure SLoopB (A : CallP) (b : AC) (ib : RunC') (Q : Ex → Fr → St → Prop) (fr : Fr) (st : St) : Prop where
 h : SLoop (fun R => ib (seqK R Q)) fr st
noncomputable def spF (A : CallP) (c : AC) : RunC' :=
 AC.rec (motive := fun _ => RunC') (fun Q fr st => Q .normal fr st) (fun ops Q fr st => (runOpsF ops fr st).sq A (regK Q)) (fun ds kill Q fr st => ((runDF ds [] fr st).bq (cutT kill)).sq A (regK Q))
  (fun _ _ ia ib Q fr st => ia (seqK (ib Q) Q) fr st)
  (fun c _ _ ia ib Q fr st => match c.ev fr with
    | .b x => SIf x (ia Q fr st) (ib Q fr st)
    | _ => False)
  (fun id _ ib Q fr st => ib (blkK id Q) fr st) (fun b ib Q fr st => SLoopB A b ib Q fr st) (fun id Q fr st => Q (.exit id) fr st) (fun Q fr st => Q .ret fr st) (fun _ _ _ => False) c
theorem spF_cond (A : CallP) (c : Opd) (a b : AC) (Q : Ex → Fr → St → Prop) (fr : Fr) (st : St) : spF A (.cond c a b) Q fr st = match c.ev fr with
 | .b x => SIf x (spF A a Q fr st) (spF A b Q fr st)
 | _ => False := rfl
theorem spF_mono {A : CallP} (hA : A.Mono) : ∀ (c : AC) (Q Q' : Ex → Fr → St → Prop) (fr : Fr) (st : St), spF A c Q fr st → (∀ e fr st, Q e fr st → Q' e fr st) → spF A c Q' fr st
 | .skip, Q, Q', fr, st, h, hq => hq _ _ _ h
 | .reg ops, Q, Q', fr, st, h, hq => by
   have h : (runOpsF ops fr st).sq A (regK Q) := h
   show (runOpsF ops fr st).sq A (regK Q')
   rw [T.sq_eq] at h ⊢
   exact T.sp_mono hA _ (fun ⟨_, _⟩ h => hq _ _ _ h) h
 | .dreg ds kill, Q, Q', fr, st, h, hq => by
   have h : ((runDF ds [] fr st).bq (cutT kill)).sq A (regK Q) := h
   show ((runDF ds [] fr st).bq (cutT kill)).sq A (regK Q')
   rw [T.sq_eq] at h ⊢
   exact T.sp_mono hA _ (fun ⟨_, _⟩ h => hq _ _ _ h) h
 | .seq a b, Q, Q', fr, st, h, hq => by
   refine spF_mono hA a _ _ fr st h ?_
   intro e fr st h
   cases e with
   | normal => exact spF_mono hA b _ _ fr st h hq
   | exit id => exact hq _ _ _ h
   | ret => exact hq _ _ _ h
 | .cond c a b, Q, Q', fr, st, h, hq => by
   rw [spF_cond] at h ⊢
   split at h
   · exact ⟨fun hc => spF_mono hA a _ _ _ _ (h.t hc) hq, fun hc => spF_mono hA b _ _ _ _ (h.f hc) hq⟩
   · exact h.elim
 | .blk id b, Q, Q', fr, st, h, hq => by
   refine spF_mono hA b _ _ fr st h ?_
   intro e fr st h
   cases e with
   | normal => exact hq _ _ _ h
   | exit id' =>
     simp only [blkK] at h ⊢
     split
     · rename_i hi; rw [if_pos hi] at h; exact hq _ _ _ h
     · rename_i hi; rw [if_neg hi] at h; exact hq _ _ _ h
   | ret => exact hq _ _ _ h
 | .loop b, Q, Q', fr, st, h, hq => by
   refine SLoopB.mk ⟨fun R hR => h.h.h R fun fr fr' st hl hx => hR fr fr' st hl ?_⟩
   refine spF_mono hA b _ _ fr' st hx ?_
   intro e fr st h
   cases e with
   | normal => exact h
   | exit id => exact hq _ _ _ h
   | ret => exact hq _ _ _ h
 | .exit id, Q, Q', fr, st, h, hq => hq _ _ _ h
 | .ret, Q, Q', fr, st, h, hq => hq _ _ _ h
 | .no, _, _, _, _, h, _ => h.elim
theorem spF_wp {A : CallP} (hA : A.Mono) : ∀ (c : AC) (Q Q' : Ex → Fr → St → Prop) (fr : Fr) (st : St), spF A c Q fr st → (∀ e fr st, Q e fr st → Q' e fr st) → wpC A c Q' fr st
 | .skip, Q, Q', fr, st, h, hq => hq _ _ _ h
 | .reg ops, Q, Q', fr, st, h, hq => by
   have h : (runOpsF ops fr st).sq A (regK Q) := h
   rw [T.sq_eq] at h
   exact T.wp_mono hA (fun ⟨_, _⟩ h => hq _ _ _ h) (runOpsF_wp hA ops fr st _ (T.sp_wp hA _ _ h))
 | .dreg ds kill, Q, Q', fr, st, h, hq => by
   refine T.wp_mono hA (fun ⟨_, _⟩ h => hq _ _ _ h) (?_ : T.wp A _ (regK Q))
   have h : ((runDF ds [] fr st).bq (cutT kill)).sq A (regK Q) := h
   rw [T.sq_eq, T.bq_eq] at h
   have h := T.sp_wp hA _ _ h
   rw [T.wp_bind] at h ⊢
   exact runDF_wp hA _ _ _ _ _ h
 | .seq a b, Q, Q', fr, st, h, hq => by
   refine spF_wp hA a _ _ fr st h ?_
   intro e fr st h
   cases e with
   | normal => exact spF_wp hA b _ _ fr st h hq
   | exit id => exact hq _ _ _ h
   | ret => exact hq _ _ _ h
 | .cond c a b, Q, Q', fr, st, h, hq => by
   rw [spF_cond] at h
   simp only [wpC]
   split at h
   · rename_i x hx
     rw [hx]
     exact ⟨fun hc => spF_wp hA a _ _ _ _ (h.t hc) hq, fun hc => spF_wp hA b _ _ _ _ (h.f hc) hq⟩
   · exact h.elim
 | .blk id b, Q, Q', fr, st, h, hq => by
   refine spF_wp hA b _ _ fr st h ?_
   intro e fr st h
   cases e with
   | normal => exact hq _ _ _ h
   | exit id' =>
     simp only [blkK] at h ⊢
     split
     · rename_i hi; rw [if_pos hi] at h; exact hq _ _ _ h
     · rename_i hi; rw [if_neg hi] at h; exact hq _ _ _ h
   | ret => exact hq _ _ _ h
 | .loop b, Q, Q', fr, st, h, hq => by
   intro R hR
   refine h.h.h R fun fr fr' st hl hx => hR fr fr' st hl ?_
   refine spF_wp hA b _ _ fr' st hx ?_
   intro e fr st h
   cases e with
   | normal => exact h
   | exit id => exact hq _ _ _ h
   | ret => exact hq _ _ _ h
 | .exit id, Q, Q', fr, st, h, hq => hq _ _ _ h
 | .ret, Q, Q', fr, st, h, hq => hq _ _ _ h
 | .no, _, _, _, _, h, _ => h.elim
theorem SLoopB.un {P : Program} {b : AC} {ib : RunC'} {Q : Ex → Fr → St → Prop} {fr : Fr} {st : St} (e : spF (ACall P) b = ib) (h : ib (seqK (SLoopB (ACall P) b ib Q) Q) fr st) : SLoopB (ACall P) b ib Q fr st := by
 subst e
 refine ⟨⟨fun R hR => hR fr fr st (Fr.le_refl _) (spF_mono (ACall.mono P) b _ _ fr st h ?_)⟩⟩
 intro e fr st hx
 cases e with
 | normal => exact hx.h.h R hR
 | exit id => exact hx
 | ret => exact hx
theorem fn_sf {P : Program} {f : Nat} {F : AFn} (hk : okFn P f F = true) {args : List V} (hn : args.length = F.nparams) {h : Heap} {K : V → Heap → Prop}
 (hw : (gst h).fS fun st => (paramFrame 0 args).fS fun fr => spF (ACall P) F.body (retK F.results K) fr st) : ACall P f args h K := by
 rw [St.fS_eq, Fr.fS_eq] at hw
 exact fn_ok hk hn (spF_wp (ACall.mono P) _ _ _ _ _ hw fun _ _ _ h => h)
end Go.Eng
/-
Memory told anew: objects under other numbers, those that nobody names left out.
-/
namespace Go.Eng
open Go
structure Ren where
 g : Nat → Nat
 l : Nat → Nat
def Ren.key (ρ : Ren) : Key → Key
 | .g n => .g (ρ.g n)
 | .l n => .l (ρ.l n)
def V.ren0 (ρ : Ren) : V → V
 | .p k off => .p (ρ.key k) off
 | .pa k sz ix off => .pa (ρ.key k) sz ix off
 | .sl (some k) sz es => .sl (some (ρ.key k)) sz es
 | .ms k sz st len => .ms (ρ.key k) sz st len
 | .m k => .m (ρ.key k)
 | v => v
def V.ren1 (ρ : Ren) : V → V
 | .agg cs => .agg (cs.map (V.ren0 ρ))
 | .fn f a c => .fn f (a.map (V.ren0 ρ)) (c.map (V.ren0 ρ))
 | v => v.ren0 ρ
def V.ren2 (ρ : Ren) : V → V
 | .tup cs => .tup (cs.map (V.ren1 ρ))
 | v => v.ren1 ρ
def Obj.ren (ρ : Ren) : Obj → Obj
 | .cs c => .cs (c.map (V.ren0 ρ))
 | .arr sz es => .arr sz (es.map fun e => e.map (V.ren0 ρ))
 | .spare => .spare
 | .mp kd es => .mp kd (es.map fun q => (q.1, q.2.ren1 ρ))
structure Lim where
 g : Nat
 l : Nat
def Lim.has (b : Lim) : Key → Prop
 | .g n => n < b.g
 | .l n => n < b.l
def V.bd0 (b : Lim) : V → Prop
 | .p k _ => b.has k
 | .pa k _ _ _ => b.has k
 | .sl (some k) _ _ => b.has k
 | .ms k _ _ _ => b.has k
 | .m k => b.has k
 | .agg _ => False
 | .tup _ => False
 | .fn _ _ _ => False
 | _ => True
def V.bd1 (b : Lim) : V → Prop
 | .agg cs => ∀ v ∈ cs, v.bd0 b
 | .fn _ a c => (∀ v ∈ a, v.bd0 b) ∧ ∀ v ∈ c, v.bd0 b
 | v => v.bd0 b
def V.bd2 (b : Lim) : V → Prop
 | .tup cs => ∀ v ∈ cs, v.bd1 b
 | v => v.bd1 b
def Obj.bd (b : Lim) : Obj → Prop
 | .cs c => ∀ v ∈ c, v.bd0 b
 | .arr _ es => ∀ e ∈ es, ∀ v ∈ e, v.bd0 b
 | .spare => True
 | .mp _ es => ∀ q ∈ es, q.2.bd1 b
def Env.ren (E : Env) (ρ : Ren) (b : Lim) : Env := ⟨E.I, fun k => E.μ (ρ.key k), b.g, b.l⟩
theorem Env.ren_has {E : Env} {ρ : Ren} {b : Lim} {k : Key} (h : b.has k) : (E.ren ρ b).has k := by cases k <;> exact h
theorem rel_ren0 {E : Env} {ρ : Ren} {b : Lim} {v : V} {x : Value} (hb : v.bd0 b) (h : Rel E (v.ren0 ρ) x) : Rel (E.ren ρ b) v x := by
 cases v
 case b => cases h with | deep hd => exact .deep hd
 case i => cases h with | deep hd => exact .deep hd
 case s => cases h with | deep hd => exact .deep hd
 case nilp => cases h with
  | deep hd => exact .deep hd
  | nilp => exact .nilp
 case p k off => cases h with
  | deep hd => cases hd
  | p _ _ hk => exact .p (E := E.ren ρ b) k off (Env.ren_has hb)
 case pa k sz ix off => cases h with
  | deep hd => cases hd
  | pa _ _ _ _ hk => exact .pa (E := E.ren ρ b) k sz ix off (Env.ren_has hb)
 case pc cs off => cases h with
  | deep hd => cases hd
  | pc _ _ blk o val hv hr => exact .pc cs off blk o val hv hr
 case nils => cases h with | deep hd => exact .deep hd
 case sl tok sz es =>
  cases tok with
  | none => cases h with | deep hd => exact .deep hd
  | some k => cases h with
    | deep hd => cases hd
    | tsl _ _ _ a cap hk hd hb' hs => exact .tsl (E := E.ren ρ b) k sz es a cap (Env.ren_has hb) hd hb' hs
 case ms k sz st len => cases h with
  | deep hd => cases hd
  | ms _ _ _ _ a cap hk hc hf hb' ha => exact .ms (E := E.ren ρ b) k sz st len a cap (Env.ren_has hb) hc hf hb' ha
 case nilm => cases h with
  | deep hd => exact .deep hd
  | nilm => exact .nilm
 case m k => cases h with
  | deep hd => cases hd
  | m _ hk => exact .m (E := E.ren ρ b) k (Env.ren_has hb)
 case fn => exact hb.elim
 case nilf => cases h with
  | deep hd => exact .deep hd
  | nilf => exact .nilf
 case agg => exact hb.elim
 case tup => exact hb.elim
 case junk => exact .junk x
theorem rel_ren1 {E : Env} {ρ : Ren} {b : Lim} {v : V} {x : Value} (hb : v.bd1 b) (h : Rel E (v.ren1 ρ) x) : Rel (E.ren ρ b) v x := by
 cases v
 case agg cs => cases h with
  | deep hd => cases hd
  | agg _ a ha h1 hr => exact .agg cs a (by simpa using ha) h1 fun j v x hj hx => rel_ren0 (hb v (List.mem_of_getElem? hj)) (hr j _ x (by simp [hj]) hx)
 case fn f a c => cases h with
  | deep hd => cases hd
  | fn _ _ _ a' c' ha hc hra hrc =>
    exact Rel.fn (E := E.ren ρ b) f a c a' c' (by simpa using ha) (by simpa using hc) (fun j v x hj hx => rel_ren0 (ρ := ρ) (hb.1 v (List.mem_of_getElem? hj)) (hra j _ x (by rw [List.getElem?_map, hj]; rfl) hx)) (fun j v x hj hx => rel_ren0 (ρ := ρ) (hb.2 v (List.mem_of_getElem? hj)) (hrc j _ x (by rw [List.getElem?_map, hj]; rfl) hx))
 all_goals exact rel_ren0 hb h
theorem rel_ren2 {E : Env} {ρ : Ren} {b : Lim} {v : V} {x : Value} (hb : v.bd2 b) (h : Rel E (v.ren2 ρ) x) : Rel (E.ren ρ b) v x := by
 cases v
 case tup cs => cases h with
  | deep hd => cases hd
  | tup _ a ha hr => exact .tup cs a (by simpa using ha) fun j v x hj hx => rel_ren1 (hb v (List.mem_of_getElem? hj)) (hr j _ x (by simp [hj]) hx)
 all_goals exact rel_ren1 hb h
theorem row_ren {z : Nat} {E : Env} {ρ : Ren} {b : Lim} {w : World} {L : Loc} {cs : List V} (hb : ∀ v ∈ cs, v.bd0 b) (h : RowOf z E w L (cs.map (V.ren0 ρ))) : RowOf z (E.ren ρ b) w L cs := by
 obtain ⟨cells, t, fz, h1, h2, h3, h4, h5⟩ := h
 refine ⟨cells, t, fz, h1, h2, by simpa using h3, h4, fun j v hj => ?_⟩
 obtain ⟨x, hx, hr, ho⟩ := h5 j (v.ren0 ρ) (by simp [hj])
 exact ⟨x, hx, rel_ren0 (hb v (List.mem_of_getElem? hj)) hr, ho⟩
theorem holds_ren {E : Env} {ρ : Ren} {b : Lim} {w : World} {L : Loc} {o : Obj} (hb : o.bd b) (h : Holds E w L (o.ren ρ)) : Holds (E.ren ρ b) w L o := by
 cases o with
 | cs c => exact ⟨h.1, row_ren hb h.2⟩
 | arr sz es =>
   refine ⟨fun e he => ?_, row_ren (fun v hv => ?_) ?_⟩
   · have := h.1 (e.map (V.ren0 ρ)) (List.mem_map.2 ⟨e, he, rfl⟩)
     simpa using this
   · obtain ⟨e, he, hv⟩ := List.mem_flatten.1 hv
     exact hb e he v hv
   · have := h.2
     rwa [← List.map_flatten] at this
 | spare => exact row_ren (cs := []) (fun v hv => by cases hv) h
 | mp kd es =>
   obtain ⟨ents, clock, h1, h2, h3, h4⟩ := h
   refine ⟨ents, clock, h1, by simpa using h2, fun j q e hq he => ?_, h4⟩
   obtain ⟨a1, a2, a3⟩ := h3 j (q.1, q.2.ren1 ρ) e (by simp [hq]) he
   exact ⟨a1, a2, rel_ren1 (hb q (List.mem_of_getElem? hq)) a3⟩
def St.lim (st : St) : Lim := ⟨st.g.next, st.l.next⟩
def Key.lim (b : Lim) : Key → Lim
 | .g _ => ⟨b.g, 0⟩
 | .l _ => b
structure Can (ρ : Ren) (fr : Fr) (st : St) (fr' : Fr) (st' : St) : Prop where
 inj : ∀ k k', st'.live k → st'.live k' → ρ.key k = ρ.key k' → k = k'
 obj : ∀ k o, st'.get k = some o → st'.lim.has k ∧ st.get (ρ.key k) = some (o.ren ρ) ∧ o.bd (k.lim st'.lim)
 fr : ∀ t, fr'.get t = .junk ∨ (fr.get t = (fr'.get t).ren2 ρ ∧ (fr'.get t).bd2 st'.lim)
theorem Can.ok {ρ : Ren} {fr : Fr} {st : St} {fr' : Fr} {st' : St} (h : Can ρ fr st fr' st') {E : Env} {w : World} {N : Nat} {a : Act} (hs : Sim E st w) (hf : FrRel E N fr a) :
 Sim (E.ren ρ st'.lim) st' w ∧ FrRel (E.ren ρ st'.lim) N fr' a := by
 have hl : ∀ k, st'.live k → st.live (ρ.key k) := fun k ⟨o, ho⟩ => ⟨_, (h.obj k o ho).2.1⟩
 refine ⟨⟨rfl, rfl, fun k ⟨o, ho⟩ => Env.ren_has (h.obj k o ho).1, hs.imm, fun k o ho => ?_, fun k k' hk hk' hne => ?_, fun k hk => hs.own _ (hl k hk)⟩, hf.size, fun t => ?_⟩
 · obtain ⟨_, h2, h3⟩ := h.obj k o ho
   have h4 := hs.obj _ _ h2
   cases k with
   | g n => exact holds_ren (E := E.cut) (b := ⟨st'.lim.g, 0⟩) h3 h4
   | l n => exact holds_ren (E := E) h3 h4
 · exact hs.sep _ _ (hl k hk) (hl k' hk') fun e => hne (h.inj k k' hk hk' e)
 · rcases h.fr t with h1 | ⟨h1, h2⟩
   · rw [h1]; exact .junk _
   · have := hf.rel t
     rw [h1] at this
     exact rel_ren2 h2 this
theorem Can.ext {ρ : Ren} {fr : Fr} {st : St} {fr' : Fr} {st' : St} (h : Can ρ fr st fr' st') {E0 E : Env} {st0 : St} {w0 w : World} (z1 : E0.ng = 0) (z2 : E0.nl = 0) (he : Ext E0 st0 w0 E st w) : Ext E0 st0 w0 (E.ren ρ st'.lim) st' w := by
 have hno : ∀ k, ¬ E0.has k := fun k hk => by cases k <;> simp [Env.has, z1, z2] at hk
 refine ⟨⟨he.le.imm, by rw [z1]; exact Nat.zero_le _, by rw [z2]; exact Nat.zero_le _, fun k hk => absurd hk (hno k)⟩, he.size, he.immNew, fun k _ hk => absurd hk (hno k), fun k ⟨o, ho⟩ _ => ?_, he.same, he.os, he.out, he.tape⟩
 exact he.keyNew (ρ.key k) ⟨_, (h.obj k o ho).2.1⟩ (hno _)
end Go.Eng
/-
Memory told anew: objects under other numbers, those that nobody names left out, rows that are never written again laid open.
-/
namespace Go.Eng
open Go
abbrev Fz := Key → Option (Nat × List (List V))
def noFz : Fz := fun _ => none
mutual
inductive Nd : V → V → Prop where
 | refl (v : V) : Nd v v
 | nil (sz : Nat) : Nd .nils (.sl none sz [])
 | sl {sz : Nat} {es ds : List (List V)} (h : NdLL es ds) : Nd (.sl none sz es) (.sl none sz ds)
inductive NdL : List V → List V → Prop where
 | nil : NdL [] []
 | cons {u v : V} {r q : List V} (h : Nd u v) (t : NdL r q) : NdL (u :: r) (v :: q)
inductive NdLL : List (List V) → List (List V) → Prop where
 | nil : NdLL [] []
 | cons {u v : List V} {r q : List (List V)} (h : NdL u v) (t : NdLL r q) : NdLL (u :: r) (v :: q)
end
theorem NdL.append : ∀ {l q l' q' : List V}, NdL l q → NdL l' q' → NdL (l ++ l') (q ++ q')
 | [], _, _, _, .nil, h => h
 | _ :: _, _, _, _, .cons h t, h' => .cons h (t.append h')
theorem NdLL.flat : ∀ {l q : List (List V)}, NdLL l q → NdL l.flatten q.flatten
 | [], _, .nil => .nil
 | _ :: _, _, .cons h t => by rw [List.flatten_cons, List.flatten_cons]; exact h.append t.flat
theorem NdL.spec : ∀ {l q : List V}, NdL l q → q.length = l.length ∧ ∀ (j : Nat) (v : V), q[j]? = some v → ∃ u, l[j]? = some u ∧ Nd u v
 | [], _, .nil => ⟨rfl, fun j v h => by simp at h⟩
 | u :: r, _, .cons h t => by
   obtain ⟨h1, h2⟩ := NdL.spec t
   refine ⟨by simp [h1], fun j w hj => ?_⟩
   cases j with
   | zero => simp at hj; subst hj; exact ⟨u, rfl, h⟩
   | succ j => obtain ⟨x, h3, h4⟩ := h2 j w (by simpa using hj); exact ⟨x, by simpa using h3, h4⟩
theorem NdLL.len {sz : Nat} : ∀ {l q : List (List V)}, NdLL l q → (∀ e ∈ l, e.length = sz) → q.length = l.length ∧ ∀ e ∈ q, e.length = sz
 | [], _, .nil, _ => ⟨rfl, fun e he => by cases he⟩
 | _ :: _, _, .cons h t, hl => by
   obtain ⟨h1, h2⟩ := t.len (fun e he => hl e (.tail _ he))
   refine ⟨by simp [h1], fun e he => ?_⟩
   cases he with
   | head => rw [h.spec.1]; exact hl _ (.head _)
   | tail _ he => exact h2 e he
theorem RelD.nd {I : Imm} {u : V} {x : Value} (hr : RelD I u x) : ∀ {v : V}, Nd u v → RelD I v x := by
 induction hr with
 | b x => intro v h; cases h; exact .b x
 | i k n => intro v h; cases h; exact .i k n
 | s l => intro v h; cases h; exact .s l
 | nils => intro v h; cases h with
   | refl => exact .nils
   | nil sz => exact .slNil sz
 | slNil sz => intro v h; cases h with
   | refl => exact .slNil sz
   | sl h => cases h; exact .slNil sz
 | slE sz a hs => intro v h; cases h with
   | refl => exact .slE sz a hs
   | sl h => cases h; exact .slE sz a hs
 | sl sz es blk off cap val hc hl hv hr ih => intro v h; cases h with
   | refl => exact .sl sz es blk off cap val hc hl hv hr
   | @sl _ _ ds h =>
     obtain ⟨l1, l2⟩ := h.len hl
     obtain ⟨s1, s2⟩ := h.flat.spec
     rw [← l1]
     refine .sl sz ds blk off cap val (by omega) l2 (fun j d hj => ?_) (fun j d hj => ?_)
     · obtain ⟨u, hu, _⟩ := s2 j d hj; exact hv j u hu
     · obtain ⟨u, hu, hn⟩ := s2 j d hj; exact ih j u hu hn
inductive Ce (ρ : Ren) (b : Lim) (F : Fz) : V → V → Prop where
 | ren {u v : V} (e : u = v.ren0 ρ) (h : v.bd0 b) : Ce ρ b F u v
 | frz {k : Key} {sz s n : Nat} {ds es : List (List V)} (h : F k = some (sz, ds)) (hn : s + n ≤ ds.length) (he : es = (ds.drop s).take n) : Ce ρ b F (.ms k sz s n) (.sl none sz es)
 | tok {k : Key} {sz : Nat} {es : List (List V)} : Ce ρ b F (.sl (some k) sz es) (.sl none sz es)
 | rows {t : Option Key} {sz : Nat} {es ds : List (List V)} (h : NdLL es ds) : Ce ρ b F (.sl t sz es) (.sl none sz ds)
 | nil {sz : Nat} : Ce ρ b F .nils (.sl none sz [])
 | junk {v : V} : Ce ρ b F v .junk
def CeL (ρ : Ren) (b : Lim) (F : Fz) : List V → List V → Prop
 | [], [] => True
 | u :: r, v :: q => Ce ρ b F u v ∧ CeL ρ b F r q
 | _, _ => False
def CeLL (ρ : Ren) (b : Lim) (F : Fz) : List (List V) → List (List V) → Prop
 | [], [] => True
 | u :: r, v :: q => CeL ρ b F u v ∧ CeLL ρ b F r q
 | _, _ => False
def Ce1 (ρ : Ren) (b : Lim) (F : Fz) (u v : V) : Prop :=
 Ce ρ b F u v ∨ (∃ cs ds, u = .agg cs ∧ v = .agg ds ∧ CeL ρ b F cs ds) ∨ ∃ f a c a' c', u = .fn f a c ∧ v = .fn f a' c' ∧ CeL ρ b F a a' ∧ CeL ρ b F c c'
def Ce1L (ρ : Ren) (b : Lim) (F : Fz) : List V → List V → Prop
 | [], [] => True
 | u :: r, v :: q => Ce1 ρ b F u v ∧ Ce1L ρ b F r q
 | _, _ => False
def Ce2 (ρ : Ren) (b : Lim) (F : Fz) (u v : V) : Prop :=
 Ce1 ρ b F u v ∨ ∃ cs ds, u = .tup cs ∧ v = .tup ds ∧ Ce1L ρ b F cs ds
def CeM (ρ : Ren) (b : Lim) (F : Fz) : List (V × V) → List (V × V) → Prop
 | [], [] => True
 | u :: r, v :: q => (u.1 = v.1 ∧ Ce1 ρ b F u.2 v.2) ∧ CeM ρ b F r q
 | _, _ => False
def CeO (ρ : Ren) (b : Lim) (F : Fz) : Obj → Obj → Prop
 | .cs c, .cs d => CeL ρ b F c d
 | .arr sz es, .arr sz' ds => sz = sz' ∧ CeLL ρ b F es ds
 | .spare, .spare => True
 | .mp kd es, .mp kd' ds => kd = kd' ∧ CeM ρ b F es ds
 | _, _ => False
theorem CeL.spec {ρ : Ren} {b : Lim} {F : Fz} : ∀ {l q : List V}, CeL ρ b F l q → q.length = l.length ∧ ∀ (j : Nat) (v : V), q[j]? = some v → ∃ u, l[j]? = some u ∧ Ce ρ b F u v
 | [], [], _ => ⟨rfl, fun j v h => by simp at h⟩
 | u :: r, v :: q, h => by
   obtain ⟨h1, h2⟩ := CeL.spec h.2
   refine ⟨by simp [h1], fun j w hj => ?_⟩
   cases j with
   | zero => simp at hj; subst hj; exact ⟨u, rfl, h.1⟩
   | succ j => obtain ⟨x, h3, h4⟩ := h2 j w (by simpa using hj); exact ⟨x, by simpa using h3, h4⟩
 | [], _ :: _, h => h.elim
 | _ :: _, [], h => h.elim
theorem Ce1L.spec {ρ : Ren} {b : Lim} {F : Fz} : ∀ {l q : List V}, Ce1L ρ b F l q → q.length = l.length ∧ ∀ (j : Nat) (v : V), q[j]? = some v → ∃ u, l[j]? = some u ∧ Ce1 ρ b F u v
 | [], [], _ => ⟨rfl, fun j v h => by simp at h⟩
 | u :: r, v :: q, h => by
   obtain ⟨h1, h2⟩ := Ce1L.spec h.2
   refine ⟨by simp [h1], fun j w hj => ?_⟩
   cases j with
   | zero => simp at hj; subst hj; exact ⟨u, rfl, h.1⟩
   | succ j => obtain ⟨x, h3, h4⟩ := h2 j w (by simpa using hj); exact ⟨x, by simpa using h3, h4⟩
 | [], _ :: _, h => h.elim
 | _ :: _, [], h => h.elim
theorem CeM.spec {ρ : Ren} {b : Lim} {F : Fz} : ∀ {l q : List (V × V)}, CeM ρ b F l q → q.length = l.length ∧ ∀ (j : Nat) (v : V × V), q[j]? = some v → ∃ u, l[j]? = some u ∧ u.1 = v.1 ∧ Ce1 ρ b F u.2 v.2
 | [], [], _ => ⟨rfl, fun j v h => by simp at h⟩
 | u :: r, v :: q, h => by
   obtain ⟨h1, h2⟩ := CeM.spec h.2
   refine ⟨by simp [h1], fun j w hj => ?_⟩
   cases j with
   | zero => simp at hj; subst hj; exact ⟨u, rfl, h.1⟩
   | succ j => obtain ⟨x, h3, h4⟩ := h2 j w (by simpa using hj); exact ⟨x, by simpa using h3, h4⟩
 | [], _ :: _, h => h.elim
 | _ :: _, [], h => h.elim
theorem CeL.append {ρ : Ren} {b : Lim} {F : Fz} : ∀ {l q : List V}, CeL ρ b F l q → ∀ {l' q' : List V}, CeL ρ b F l' q' → CeL ρ b F (l ++ l') (q ++ q')
 | [], [], _, _, _, h => h
 | _ :: _, _ :: _, h, _, _, h' => ⟨h.1, h.2.append h'⟩
 | [], _ :: _, h, _, _, _ => h.elim
 | _ :: _, [], h, _, _, _ => h.elim
theorem CeLL.flat {ρ : Ren} {b : Lim} {F : Fz} : ∀ {l q : List (List V)}, CeLL ρ b F l q → CeL ρ b F l.flatten q.flatten
 | [], [], _ => trivial
 | u :: r, v :: q, h => by rw [List.flatten_cons, List.flatten_cons]; exact h.1.append h.2.flat
 | [], _ :: _, h => h.elim
 | _ :: _, [], h => h.elim
theorem CeLL.len {ρ : Ren} {b : Lim} {F : Fz} {sz : Nat} : ∀ {l q : List (List V)}, CeLL ρ b F l q → (∀ e ∈ l, e.length = sz) → ∀ e ∈ q, e.length = sz
 | [], [], _, _ => fun e he => by cases he
 | u :: r, v :: q, h, hl => fun e he => by
   cases he with
   | head => rw [h.1.spec.1]; exact hl u (.head _)
   | tail _ he => exact h.2.len (fun e he => hl e (.tail _ he)) e he
 | [], _ :: _, h, _ => h.elim
 | _ :: _, [], h, _ => h.elim
def FzOf (st : St) (F : Fz) : Prop := ∀ k sz ds, F k = some (sz, ds) → ∃ es, st.get k = some (.arr sz es) ∧ deepElems es = some ds
open Classical in
noncomputable def frzI (E : Env) (w : World) (F : Fz) : Imm := fun b o => match E.I b o with
 | some x => some x
 | none => if ∃ k sz ds, F k = some (sz, ds) ∧ (E.μ k).blk = b ∧ (E.μ k).base ≤ o ∧ o < (E.μ k).base + ds.flatten.length then cellIn w b o else none
theorem frzI_le (E : Env) (w : World) (F : Fz) : ∀ b o x, E.I b o = some x → frzI E w F b o = some x := fun b o x h => by unfold frzI; rw [h]
theorem frzI_cell {E : Env} {w : World} {F : Fz} (h : ∀ b o x, E.I b o = some x → cellIn w b o = some x) {b o : Nat} {x : Value} (hx : frzI E w F b o = some x) : cellIn w b o = some x := by
 unfold frzI at hx
 split at hx
 · rename_i y hy; cases hx; exact h _ _ _ hy
 · split at hx
   · exact hx
   · cases hx
theorem frzI_new {E : Env} {w : World} {F : Fz} {b o : Nat} {x : Value} (hx : frzI E w F b o = some x) : E.I b o = some x ∨ ∃ k sz ds, F k = some (sz, ds) ∧ (E.μ k).blk = b := by
 unfold frzI at hx
 split at hx
 · rename_i y hy; cases hx; exact .inl hy
 · split at hx
   · rename_i h; obtain ⟨k, sz, ds, h1, h2, _⟩ := h; exact .inr ⟨k, sz, ds, h1, h2⟩
   · cases hx
theorem frz_row {E : Env} {st : St} {w : World} {F : Fz} (hs : Sim E st w) (hF : FzOf st F) {k : Key} {sz : Nat} {ds : List (List V)} (h : F k = some (sz, ds)) :
 (∀ e ∈ ds, e.length = sz) ∧ ∀ (j : Nat) (d : V), ds.flatten[j]? = some d → ∃ x, frzI E w F (E.μ k).blk ((E.μ k).base + j) = some x ∧ RelD (frzI E w F) d x := by
 obtain ⟨es, h1, h2⟩ := hF k sz ds h
 obtain ⟨h3, h4, h5⟩ := deepElems_spec h2
 obtain ⟨hl, cells, t, fz, c1, c2, c3, c4, c5⟩ := hs.obj k _ h1
 obtain ⟨h6, h7⟩ := deeps_spec h3
 refine ⟨h5 hl, fun j d hd => ?_⟩
 obtain ⟨v, hv, hvd⟩ := h7 j d hd
 obtain ⟨x, hx, hr, _⟩ := c5 j v hv
 have hlt : j < ds.flatten.length := (List.getElem?_eq_some_iff.1 hd).1
 have hcell : cellIn w (E.μ k).blk ((E.μ k).base + j) = some x := by simp only [cellIn, c1]; exact hx
 refine ⟨x, ?_, (deep_rel hvd (hr.mono (E.at_le k))).mono (frzI_le E w F)⟩
 unfold frzI
 rw [hs.own k ⟨_, h1⟩ _ (Nat.le_add_right _ _) (by omega)]
 dsimp only
 rw [if_pos ⟨k, sz, ds, h, rfl, Nat.le_add_right _ _, by omega⟩]
 exact hcell
structure Env.Sub (E E0 : Env) : Prop where
 I : E0.I = E.I
 μ : E0.μ = E.μ
def Env.tel (E : Env) (ρ : Ren) (b : Lim) (I : Imm) : Env := ⟨I, fun k => E.μ (ρ.key k), b.g, b.l⟩
theorem Env.tel_le (E : Env) (ρ : Ren) (b : Lim) {I : Imm} (h : ∀ b o x, E.I b o = some x → I b o = some x) : (E.ren ρ b).Le (E.tel ρ b I) := ⟨h, Nat.le_refl _, Nat.le_refl _, fun _ _ => rfl⟩
section
variable {E : Env} {st : St} {w : World} {F : Fz} {ρ : Ren} {b : Lim}
theorem ce_rel (hs : Sim E st w) (hF : FzOf st F) {E0 : Env} (h0 : E.Sub E0) {u v : V} {x : Value} (hc : Ce ρ b F u v) (hr : Rel E0 u x) : Rel (E0.tel ρ b (frzI E w F)) v x := by
 have hI : ∀ b o x, E0.I b o = some x → frzI E w F b o = some x := fun b o x h => frzI_le E w F b o x (by rw [← h0.I]; exact h)
 cases hc with
 | ren e hb => subst e; exact (rel_ren0 hb hr).mono (E0.tel_le ρ b hI)
 | @frz k sz s n ds es h hn he =>
   subst he
   obtain ⟨f1, f2⟩ := frz_row hs hF h
   refine .deep ?_
   cases hr with
   | deep hd => cases hd
   | ms _ _ _ _ a cap hk hc hf hb ha =>
     have hlen : ((ds.drop s).take n).length = n := by simp; omega
     rcases ha with ha | ha
     · obtain rfl : n = 0 := by omega
       rw [ha]
       simp only [List.take_zero]
       exact RelD.slEmpty sz _
     · rw [ha]
       have := RelD.sl (I := frzI E w F) sz ((ds.drop s).take n) (E0.μ k).blk ((E0.μ k).base + s * sz) cap (fun j => ((frzI E w F (E0.μ k).blk ((E0.μ k).base + s * sz + j)).getD default)) (by omega)
        (fun e he => f1 e (List.mem_of_mem_drop (List.mem_of_mem_take he))) ?_ ?_
       · rwa [hlen] at this
       · intro j d hj
         have hjj : ds.flatten[s * sz + j]? = some d := by
          rw [flat_take (fun e he => f1 e (List.mem_of_mem_drop he)), flat_drop f1] at hj
          rw [List.getElem?_take] at hj
          split at hj
          · rw [List.getElem?_drop] at hj; exact hj
          · cases hj
         obtain ⟨y, hy, _⟩ := f2 _ d hjj
         rw [h0.μ, Nat.add_assoc, hy]
         rfl
       · intro j d hj
         have hjj : ds.flatten[s * sz + j]? = some d := by
          rw [flat_take (fun e he => f1 e (List.mem_of_mem_drop he)), flat_drop f1] at hj
          rw [List.getElem?_take] at hj
          split at hj
          · rw [List.getElem?_drop] at hj; exact hj
          · cases hj
         obtain ⟨y, hy, hyr⟩ := f2 _ d hjj
         rw [h0.μ, Nat.add_assoc, hy]
         exact hyr
 | tok => cases hr with
   | deep hd => cases hd
   | tsl _ _ _ a cap hk hd hb' hs' => exact .deep (hd.mono hI)
 | @rows t sz es ds h => cases hr with
   | deep hd =>
     cases t with
     | some k => cases hd
     | none => exact .deep ((hd.mono hI).nd (.sl h))
   | tsl _ _ _ a cap hk hd hb' hs' => exact .deep ((hd.mono hI).nd (.sl h))
 | nil => cases hr with
   | deep hd => cases hd with
     | nils => exact .deep (.slNil _)
 | junk => exact .junk x
theorem ceL_rel (hs : Sim E st w) (hF : FzOf st F) {E0 : Env} (h0 : E.Sub E0) {l q : List V} (hc : CeL ρ b F l q) {xs : Array Value} (hn : xs.size = l.length)
 (hr : ∀ (j : Nat) (v : V) (x : Value), l[j]? = some v → xs[j]? = some x → Rel E0 v x) : xs.size = q.length ∧ ∀ (j : Nat) (v : V) (x : Value), q[j]? = some v → xs[j]? = some x → Rel (E0.tel ρ b (frzI E w F)) v x := by
 obtain ⟨h1, h2⟩ := hc.spec
 refine ⟨by omega, fun j v x hj hx => ?_⟩
 obtain ⟨u, hu, hc⟩ := h2 j v hj
 exact ce_rel hs hF h0 hc (hr j u x hu hx)
theorem ce1_rel (hs : Sim E st w) (hF : FzOf st F) {E0 : Env} (h0 : E.Sub E0) {u v : V} {x : Value} (hc : Ce1 ρ b F u v) (hr : Rel E0 u x) : Rel (E0.tel ρ b (frzI E w F)) v x := by
 rcases hc with hc | ⟨cs, ds, rfl, rfl, hc⟩ | ⟨f, a, c, a', c', rfl, rfl, ha, hc⟩
 · exact ce_rel hs hF h0 hc hr
 · cases hr with
   | deep hd => cases hd
   | agg _ xs hn h1 hr =>
     obtain ⟨h2, h3⟩ := ceL_rel hs hF h0 hc hn hr
     exact .agg _ _ h2 h1 h3
 · cases hr with
   | deep hd => cases hd
   | fn _ _ _ ya yc hna hnc hra hrc =>
     obtain ⟨h2, h3⟩ := ceL_rel hs hF h0 ha hna hra
     obtain ⟨h4, h5⟩ := ceL_rel hs hF h0 hc hnc hrc
     exact .fn _ _ _ _ _ h2 h4 h3 h5
theorem ce2_rel (hs : Sim E st w) (hF : FzOf st F) {E0 : Env} (h0 : E.Sub E0) {u v : V} {x : Value} (hc : Ce2 ρ b F u v) (hr : Rel E0 u x) : Rel (E0.tel ρ b (frzI E w F)) v x := by
 rcases hc with hc | ⟨cs, ds, rfl, rfl, hc⟩
 · exact ce1_rel hs hF h0 hc hr
 · cases hr with
   | deep hd => cases hd
   | tup _ xs hn hr =>
     obtain ⟨h1, h2⟩ := hc.spec
     refine .tup _ _ (by omega) fun j v x hj hx => ?_
     obtain ⟨u, hu, hc⟩ := h2 j v hj
     exact ce1_rel hs hF h0 hc (hr j u x hu hx)
theorem ce_row {z : Nat} (hs : Sim E st w) (hF : FzOf st F) {E0 : Env} (h0 : E.Sub E0) {L : Loc} {cs ds : List V} (hc : CeL ρ b F cs ds) (h : RowOf z E0 w L cs) : RowOf z (E0.tel ρ b (frzI E w F)) w L ds := by
 obtain ⟨cells, t, fz, h1, h2, h3, h4, h5⟩ := h
 obtain ⟨c1, c2⟩ := hc.spec
 refine ⟨cells, t, fz, h1, h2, by omega, h4, fun j v hj => ?_⟩
 obtain ⟨u, hu, hc⟩ := c2 j v hj
 obtain ⟨x, hx, hr, ho⟩ := h5 j u hu
 exact ⟨x, hx, ce_rel hs hF h0 hc hr, ho⟩
theorem ce_holds (hs : Sim E st w) (hF : FzOf st F) {E0 : Env} (h0 : E.Sub E0) {L : Loc} {o o' : Obj} (hc : CeO ρ b F o o') (h : Holds E0 w L o) : Holds (E0.tel ρ b (frzI E w F)) w L o' := by
 cases o <;> cases o' <;> simp only [CeO] at hc
 case cs.cs c d => exact ⟨h.1, ce_row hs hF h0 hc h.2⟩
 case arr.arr sz es sz' ds =>
  obtain ⟨rfl, hc⟩ := hc
  exact ⟨hc.len h.1, ce_row hs hF h0 hc.flat h.2⟩
 case spare.spare => exact ce_row hs hF h0 (cs := []) (ds := []) trivial h
 case mp.mp kd es kd' ds =>
  obtain ⟨rfl, hc⟩ := hc
  obtain ⟨ents, clock, h1, h2, h3, h4⟩ := h
  obtain ⟨c1, c2⟩ := hc.spec
  refine ⟨ents, clock, h1, by omega, fun j q e hq he => ?_, h4⟩
  obtain ⟨u, hu, e1, e2⟩ := c2 j q hq
  obtain ⟨a1, a2, a3⟩ := h3 j u e hu he
  rw [e1] at a1 a2
  exact ⟨a1.mono (fun b o x hx => frzI_le E w F b o x (by rw [← h0.I]; exact hx)), a2, ce1_rel hs hF h0 e2 a3⟩
end
structure Tel (ρ : Ren) (F : Fz) (fr : Fr) (st : St) (fr' : Fr) (st' : St) : Prop where
 fz : FzOf st F
 inj : ∀ k k', st'.live k → st'.live k' → ρ.key k = ρ.key k' → k = k'
 obj : ∀ k o', st'.get k = some o' → st'.lim.has k ∧ F (ρ.key k) = none ∧ ∃ o, st.get (ρ.key k) = some o ∧ CeO ρ (k.lim st'.lim) F o o'
 fr : ∀ t, Ce2 ρ st'.lim F (fr.get t) (fr'.get t)
theorem Tel.ok {ρ : Ren} {F : Fz} {fr : Fr} {st : St} {fr' : Fr} {st' : St} (h : Tel ρ F fr st fr' st') {E : Env} {w : World} (hs : Sim E st w) :
 Sim (E.tel ρ st'.lim (frzI E w F)) st' w ∧ ∀ (t : Nat) (x : Value), Rel E (fr.get t) x → Rel (E.tel ρ st'.lim (frzI E w F)) (fr'.get t) x := by
 have hl : ∀ k, st'.live k → st.live (ρ.key k) := fun k ⟨o, ho⟩ => by obtain ⟨_, _, o', h1, _⟩ := h.obj k o ho; exact ⟨_, h1⟩
 refine ⟨⟨rfl, rfl, fun k ⟨o, ho⟩ => ?_, fun b o x hx => frzI_cell hs.imm hx, fun k o ho => ?_, fun k k' hk hk' hne => ?_, fun k hk j h1 h2 => ?_⟩, fun t x hx => ce2_rel hs h.fz ⟨rfl, rfl⟩ (h.fr t) hx⟩
 · have := (h.obj k o ho).1
   cases k <;> exact this
 · obtain ⟨_, _, o0, h2, h3⟩ := h.obj k o ho
   have h4 := hs.obj _ _ h2
   cases k with
   | g n => exact ce_holds (E0 := E.cut) (b := ⟨st'.lim.g, 0⟩) hs h.fz ⟨rfl, rfl⟩ h3 h4
   | l n => exact ce_holds (E0 := E) hs h.fz ⟨rfl, rfl⟩ h3 h4
 · exact hs.sep _ _ (hl k hk) (hl k' hk') fun e => hne (h.inj k k' hk hk' e)
 · show frzI E w F (E.μ (ρ.key k)).blk j = none
   have hlive := hl k hk
   obtain ⟨o, ho⟩ := hk
   obtain ⟨_, hnone, _⟩ := h.obj k o ho
   have hown := hs.own _ hlive j h1 h2
   unfold frzI
   rw [hown]
   dsimp only
   rw [if_neg]
   rintro ⟨k1, sz, ds, e1, e2, _⟩
   obtain ⟨es, e3, _⟩ := h.fz k1 sz ds e1
   by_cases hkk : k1 = ρ.key k
   · subst hkk; rw [hnone] at e1; cases e1
   · exact hs.sep _ _ ⟨_, e3⟩ hlive hkk e2
theorem Tel.extN {ρ : Ren} {F : Fz} {fr : Fr} {st : St} {fr' : Fr} {st' : St} (h : Tel ρ F fr st fr' st') {n : Nat} (hρ : ∀ i, i < n → ρ.g i = i) (hn : n ≤ st'.g.next) {E0 E : Env} {st0 : St} {w0 w : World} (z1 : E0.ng = n) (z2 : E0.nl = 0) (he : Ext E0 st0 w0 E st w) : Ext E0 st0 w0 (E.tel ρ st'.lim (frzI E w F)) st' w := by
 have hk0 : ∀ k, E0.has k → ρ.key k = k := fun k hk => by
  cases k with
  | g i =>
    have hi : i < E0.ng := hk
    show Key.g (ρ.g i) = .g i
    rw [hρ i (by omega)]
  | l i =>
    have hi : i < E0.nl := hk
    omega
 refine ⟨⟨fun b o x hx => frzI_le E w F b o x (he.le.imm b o x hx), by rw [z1]; exact hn, by rw [z2]; exact Nat.zero_le _, fun k hk => ?_⟩, he.size, fun b o x hx => ?_, fun k ⟨o, ho⟩ hk => ?_, fun k ⟨o, ho⟩ _ => ?_, he.same, he.os, he.out, he.tape⟩
 · show E.μ (ρ.key k) = E0.μ k
   rw [hk0 k hk]
   exact he.le.loc k hk
 · rcases frzI_new hx with h1 | ⟨k, sz, ds, h1, h2⟩
   · exact he.immNew b o x h1
   · obtain ⟨es, h3, _⟩ := h.fz k sz ds h1
     by_cases hk : E0.has k
     · exact .inr (.inr ⟨k, he.keyOld k ⟨_, h3⟩ hk, by rw [← he.le.loc k hk]; exact h2⟩)
     · rcases he.keyNew k ⟨_, h3⟩ hk with h4 | ⟨k0, h4, h5⟩
       · exact .inr (.inl (h2 ▸ h4))
       · exact .inr (.inr ⟨k0, h4, h5.trans h2⟩)
 · obtain ⟨_, _, o0, h1, _⟩ := h.obj k o ho
   rw [hk0 k hk] at h1
   exact he.keyOld k ⟨_, h1⟩ hk
 · obtain ⟨_, _, o0, h1, _⟩ := h.obj k o ho
   by_cases hk : E0.has (ρ.key k)
   · exact .inr ⟨_, he.keyOld _ ⟨_, h1⟩ hk, by rw [← he.le.loc _ hk]; rfl⟩
   · exact he.keyNew (ρ.key k) ⟨_, h1⟩ hk
def Pure (P : Program) (f : Nat) (args : List V) (Q : V → Prop) : Prop :=
 ACall P f args noG fun v h' => ∃ ρ F u, Tel ρ F [(0, v)] (gst h') [(0, u)] (gst noG) ∧ u.free = true ∧ Q u
theorem Pure.use {P : Program} {f : Nat} {args : List V} {Q : V → Prop} (h0 : Pure P f args Q) (ha : args.all V.free = true) {h : Heap} {K : V → Heap → Prop} (hK : ∀ u, u.free = true → Q u → K u h) : ACall P f args h K := by
 refine ⟨h0.1, fun E w vs hnl hs hv => ?_⟩
 simp only [List.all_eq_true] at ha
 let E0 : Env := { I := E.I, μ := E.μ, ng := 0, nl := 0 }
 have hs0 : Sim E0 (gst noG) w := ⟨rfl, rfl, fun k hk => absurd hk noG_live, hs.imm, fun k o hk => absurd ⟨o, hk⟩ noG_live, fun k k' hk => absurd hk noG_live, fun k hk => absurd hk noG_live⟩
 have hv0 : RelL E0 args vs := ⟨hv.1, fun j v x hj hx => free_rel (E := E) (F := E0) (fun b o x h => h) (ha v (List.mem_of_getElem? hj)) (hv.2 j v x hj hx)⟩
 refine (h0.2 E0 w vs rfl hs0 hv0).mono ?_
 rintro e w' ⟨v, x, h', E1, ⟨ρ, F, u, ht, hfree, hq⟩, rfl, hn, hs1, he1, hr1⟩
 obtain ⟨hs', hr'⟩ := ht.ok hs1
 have hr := hr' 0 x hr1
 have he := ht.extN (n := 0) (fun i hi => absurd hi (Nat.not_lt_zero _)) (Nat.zero_le _) rfl rfl he1
 generalize E1.tel ρ (gst noG).lim (frzI E1 w' F) = E' at hs' hr he
 have hr : Rel E' u x := hr
 have himm : ImmLe E.I E'.I := he.le.imm
 have hsame : ∀ k, (gst h).live k → w'.heap[(E.μ k).blk]? = w.heap[(E.μ k).blk]? := fun k hk => he.same _ (hs.lt hk) fun k0 hk0 => absurd hk0 noG_live
 have hle : E.Le { E with I := E'.I } := ⟨himm, Nat.le_refl _, Nat.le_refl _, fun _ _ => rfl⟩
 refine ⟨u, x, h, { E with I := E'.I }, hK u hfree hq, rfl, hnl, ⟨hs.ng, hs.nl, fun k hk => hs.dom k hk, hs'.imm, fun k o hk => ?_, fun k k' hk hk' hne => hs.sep k k' hk hk' hne, fun k hk j h1 h2 => ?_⟩,
  ⟨hle, he.size, fun b o x hx => ?_, fun k hk _ => hk, fun k hk hn => absurd (hs.dom k hk) hn, fun b hb _ => he.same b hb fun k hk => absurd hk noG_live, he.os, he.out, he.tape⟩, free_rel (E := E') (F := { E with I := E'.I }) (fun b o x h => h) hfree hr⟩
 · exact (hs.obj k o hk).keep (Env.at_mono hle k) (hsame k ⟨o, hk⟩)
 · show E'.I (E.μ k).blk j = none
   cases hx : E'.I (E.μ k).blk j with
   | none => rfl
   | some y =>
     rcases he.immNew _ _ _ hx with h3 | h3 | ⟨k0, h3, _⟩
     · have := hs.own k hk j h1 h2
       rw [show E0.I = E.I from rfl, this] at h3
       cases h3
     · have := hs.lt hk
       omega
     · exact absurd h3 noG_live
 · rcases he.immNew b o x hx with h1 | h1 | ⟨k0, h1, _⟩
   · exact .inl h1
   · exact .inr (.inl h1)
   · exact absurd h1 noG_live
end Go.Eng
/-
Code and functions that begin in the empty heap: at a loop's head memory may be told anew.
-/
namespace Go.Eng
open Go
def TelN (n : Nat) (fr : Fr) (st : St) (fr' : Fr) (st' : St) : Prop := (fr' = fr ∧ st' = st) ∨ ∃ ρ F, Tel ρ F fr st fr' st' ∧ (∀ i, i < n → ρ.g i = i) ∧ n ≤ st'.g.next
abbrev TelR (fr : Fr) (st : St) (fr' : Fr) (st' : St) : Prop := TelN 0 fr st fr' st'
theorem TelN.ok {n : Nat} {fr fr' : Fr} {st st' : St} (h : TelN n fr st fr' st') {E0 E : Env} {st0 : St} {w0 w : World} (z1 : E0.ng = n) (z2 : E0.nl = 0) (hs : Sim E st w) (he : Ext E0 st0 w0 E st w) :
 ∃ E', Sim E' st' w ∧ Ext E0 st0 w0 E' st' w ∧ ∀ (t : Nat) (x : Value), Rel E (fr.get t) x → Rel E' (fr'.get t) x := by
 rcases h with ⟨rfl, rfl⟩ | ⟨ρ, F, h, h1, h2⟩
 · exact ⟨E, hs, he, fun _ _ h => h⟩
 · exact ⟨_, (h.ok hs).1, h.extN h1 h2 z1 z2 he, (h.ok hs).2⟩
def wpZ (n : Nat) (A : CallP) : AC → (Ex → Fr → St → Prop) → Fr → St → Prop
 | .skip, Q, fr, st => Q .normal fr st
 | .reg ops, Q, fr, st => (runOps ops fr st).wp A (regK Q)
 | .dreg ds kill, Q, fr, st => ((runD [] ds fr st).bind (cutT kill)).wp A (regK Q)
 | .seq a b, Q, fr, st => wpZ n A a (seqK (wpZ n A b Q) Q) fr st
 | .cond c a b, Q, fr, st => match c.ev fr with
   | .b x => wIf x (wpZ n A a Q fr st) (wpZ n A b Q fr st)
   | _ => False
 | .blk id b, Q, fr, st => wpZ n A b (blkK id Q) fr st
 | .loop b, Q, fr, st => ∀ R : Fr → St → Prop, (∀ fr st fr' st', TelN n fr st fr' st' → wpZ n A b (seqK R Q) fr' st' → R fr st) → R fr st
 | .exit id, Q, fr, st => Q (.exit id) fr st
 | .ret, Q, fr, st => Q .ret fr st
 | .no, _, _, _ => False
section
variable {P : Program} {n N : Nat} {E0 : Env} {st0 : St} {w0 : World}
theorem code_okZ (z1 : E0.ng = n) (z2 : E0.nl = 0) : ∀ (A : AC) (c : Code), okC P N c A = true → ∀ (Q : Ex → Fr → St → Prop) {fr : Fr} {st : St} {E : Env} {w : World} {a : Act},
 Sim E st w → Ext E0 st0 w0 E st w → FrRel E N fr a → a.defers = [] → wpZ n (ACall P) A Q fr st → c.wp P (Post N E0 st0 w0 Q) a w
 | .skip, c, hk, Q, fr, st, E, w, a, hs, he, hf, hd, hw => by
   cases c <;> simp [okC] at hk
   · exact wp_skip ⟨fr, st, E, hw, hs, he, hf, hd⟩
   · exact wp_label ⟨fr, st, E, hw, hs, he, hf, hd⟩
 | .reg as, c, hk, Q, fr, st, E, w, a, hs, he, hf, hd, hw => by
   cases c <;> simp [okC] at hk
   rename_i id ops draw
   obtain ⟨rfl, hk⟩ := hk
   refine wp_region ?_
   have := ops_ok (K := regK Q) (Q := Post N E0 st0 w0 Q) as ops.toList 0 hk (fun k o h => by simpa using h) hs hf hw (fun fr' st' E' a' w' h1 h2 h3 h4 h5 => ⟨fr', st', E', h1, h2, he.trans h3, h4, h5.trans hd⟩)
   rw [List.range_eq_range']
   simpa using this
 | .dreg ds kill, c, hk, Q, fr, st, E, w, a, hs, he, hf, hd, hw => by
   cases c <;> simp [okC] at hk
   rename_i id ops draw
   obtain ⟨rfl, hk⟩ := hk
   simp only [wpZ] at hw
   rw [T.wp_bind] at hw
   refine draw_ok hk hs hf hw fun fr' st' E' a' w' h1 h2 h3 h4 h5 => ?_
   simp only [cutT] at h1
   rw [Fr.cut_eq] at h1
   refine ⟨fr'.cutL kill, st', E', h1, h2, he.trans h3, ⟨h4.size, fun t => ?_⟩, h5.trans hd⟩
   rw [Fr.get_cutL]
   split
   · exact .junk _
   · exact h4.rel t
 | .seq A B, c, hk, Q, fr, st, E, w, a, hs, he, hf, hd, hw => by
   cases c <;> simp [okC] at hk
   rename_i x y
   refine wp_seq ?_
   refine wp_mono (code_okZ z1 z2 A x hk.1 _ hs he hf hd hw) ?_
   intro e a' w' h
   cases e with
   | normal =>
     obtain ⟨fr', st', E', h1, h2, h3, h4, h5⟩ := h
     exact code_okZ z1 z2 B y hk.2 Q h2 h3 h4 h5 h1
   | exit id => exact h
   | ret => exact h
   | goto l => exact h
   | panic ch => exact h
   | outgrown => exact h
 | .cond d A B, c, hk, Q, fr, st, E, w, a, hs, he, hf, hd, hw => by
   cases c <;> simp [okC] at hk
   rename_i x y z
   have r1 := okX_rel hk.1.1 hf
   simp only [wpZ] at hw
   split at hw
   · rename_i b hb
     rw [hb] at r1
     exact wp_cond_split r1.bool (fun hb => code_okZ z1 z2 A y hk.1.2 Q hs he hf hd (hw.1 hb)) (fun hb => code_okZ z1 z2 B z hk.2 Q hs he hf hd (hw.2 hb))
   · exact hw.elim
 | .blk id B, c, hk, Q, fr, st, E, w, a, hs, he, hf, hd, hw => by
   cases c <;> simp [okC] at hk
   rename_i id' x
   obtain ⟨rfl, hk⟩ := hk
   refine wp_block (wp_mono (code_okZ z1 z2 B x hk _ hs he hf hd hw) ?_)
   intro e a' w' h
   cases e with
   | normal => exact h
   | exit id =>
     obtain ⟨fr', st', E', h1, h2⟩ := h
     simp only [blkK] at h1
     simp only [Exit.inBlock]
     split
     · rename_i hid; rw [if_pos hid] at h1; exact ⟨fr', st', E', h1, h2⟩
     · rename_i hid; rw [if_neg hid] at h1; exact ⟨fr', st', E', h1, h2⟩
   | ret => exact h
   | goto l => exact h
   | panic ch => exact h
   | outgrown => exact h
 | .loop B, c, hk, Q, fr, st, E, w, a, hs, he, hf, hd, hw => by
   cases c <;> simp [okC] at hk
   rename_i x
   have key := hw (fun fr st => ∀ (E : Env) (w : World) (a : Act), Sim E st w → Ext E0 st0 w0 E st w → FrRel E N fr a → a.defers = [] → InLoop P x (Post N E0 st0 w0 Q) a w) (by
    intro fr' st' fr0 st0' hcan h' E' w' a' s1 s2 s3 s4
    obtain ⟨E1, c1, c0, c2⟩ := hcan.ok z1 z2 s1 s2
    refine InLoop.round (code_okZ z1 z2 B x hk _ c1 c0 ⟨s3.size, fun t => c2 t _ (s3.rel t)⟩ s4 h') ?_
    rintro a2 w2 ⟨fr2, st2, E2, h1, h2, h3, h4, h5⟩
    exact h1 E2 w2 a2 h2 h3 h4 h5)
   exact (key E w a hs he hf hd).loop
 | .exit id, c, hk, Q, fr, st, E, w, a, hs, he, hf, hd, hw => by
   cases c <;> simp [okC] at hk
   subst hk
   exact wp_exit ⟨fr, st, E, hw, hs, he, hf, hd⟩
 | .ret, c, hk, Q, fr, st, E, w, a, hs, he, hf, hd, hw => by
   cases c <;> simp [okC] at hk
   exact wp_ret ⟨fr, st, E, hw, hs, he, hf, hd⟩
 | .no, c, hk, Q, fr, st, E, w, a, hs, he, hf, hd, hw => hw.elim
end
section
variable {P : Program}
theorem fn_okN {f : Nat} {F : AFn} (hk : okFn P f F = true) {args : List V} (hn : args.length = F.nparams) {h0 : Heap} {K : V → Heap → Prop}
 (hw : wpZ h0.next (ACall P) F.body (retK F.results K) (paramFrame 0 args) (gst h0)) : ACall P f args h0 K := by
 unfold okFn at hk
 split at hk
 case h_2 => cases hk
 rename_i fn hfn
 split at hk
 case h_2 => cases hk
 rename_i c hb
 simp only [Bool.and_eq_true, decide_eq_true_eq] at hk
 obtain ⟨⟨⟨k1, k2⟩, k3⟩, k4⟩ := hk
 refine ⟨k1, fun E w vs hnl hs hv => ?_⟩
 refine calls_of_wp hfn hb ?_
 have hvl := hv.1
 have hfr : FrRel E fn.ntmps (paramFrame 0 args) { tmps := vs ++ Array.replicate (fn.ntmps - vs.size) undef, defers := [] } := by
  refine ⟨by simp; omega, fun t => ?_⟩
  rw [paramFrame_get, if_pos (Nat.zero_le _), Nat.sub_zero]
  by_cases ht : t < args.length
  · have h1 : args[t]? = some args[t] := by simp [ht]
    obtain ⟨x, hx, hr⟩ := hv.get h1
    have : (vs ++ Array.replicate (fn.ntmps - vs.size) undef).getD t undef = x := by
     rw [Array.getD_eq_getD_getElem?, Array.getElem?_append_left (by omega), hx]; rfl
    rw [this]
    simp only [List.getD_eq_getElem?_getD, h1, Option.getD_some]
    exact hr
  · simp only [List.getD_eq_getElem?_getD, List.getElem?_eq_none (Nat.le_of_not_lt ht), Option.getD_none]
    exact .junk _
 refine wp_mono (code_okZ (E0 := E) (st0 := gst h0) (w0 := w) hs.ng.symm hnl F.body c k2 _ hs (.refl _ _ _) hfr rfl hw) ?_
 have fin : ∀ (a : Act) (w' : World), Held fn.ntmps E (gst h0) w (fun fr st => match resOf fr st F.results with | some v => K v st.g | none => False) a w' →
  a.defers = [] ∧ ∃ v, (results fn a.tmps).run P w' = .ok v w' ∧ ∃ v' x h' E', K v' h' ∧ Ending.returned v = .returned x ∧ E'.nl = 0 ∧ Sim E' (gst h') w' ∧ Ext E (gst h0) w E' (gst h') w' ∧ Rel E' v' x := by
  rintro a w' ⟨fr, st, E', hr, s1, s2, s3, s4⟩
  refine ⟨s4, ?_⟩
  have hext : Ext E (gst h0) w E'.cut (gst st.g) w' := by
   have hl : ∀ k, (gst st.g).live k → st.live k := by
    intro k hk
    obtain ⟨n, rfl, o, ho⟩ := gst_live hk
    exact ⟨o, ho⟩
   refine ⟨⟨s2.le.imm, s2.le.ng, by rw [hnl]; exact Nat.zero_le _, s2.le.loc⟩, s2.size, s2.immNew, fun k hk he => s2.keyOld k (hl k hk) he, fun k hk he => s2.keyNew k (hl k hk) he, s2.same, s2.os, s2.out, s2.tape⟩
  unfold resOf at hr
  cases hrv : resVals fr st F.results with
  | none => rw [hrv] at hr; exact hr.elim
  | some us =>
    obtain ⟨xs, hx1, hx2⟩ := mapM_rel (P := P) s3 s1 fn.results.toList F.results us k3 hrv
    have hm : (fn.results.mapM (fun
     | .tmp t => pure (a.tmps.getD t undef)
     | .cell x t => do loadVar t (← asAddr (a.tmps.getD x undef)) : ResultVar → Sem Value)).run P w' = .ok xs.toArray w' := by
     have e : fn.results = fn.results.toList.toArray := by simp
     rw [e, List.mapM_toArray, map_eq_pure_bind]
     simp only [Sem.run_bind]
     erw [hx1]
     simp only [Result.andThen_ok, Sem.run_pure]
    have hlen := hx2.1
    rw [hrv] at hr
    match us, xs, hlen, hx2, hr, hm with
    | [v], [x], _, hx2, hr, hm =>
      refine ⟨x, ?_, v, x, st.g, E'.cut, hr, rfl, rfl, s1.cut, hext, hx2.2 0 v x rfl (by simp)⟩
      simp only [results, Sem.run_bind]
      exact andThen_eq hm (by simp)
    | [], [], _, hx2, hr, hm =>
      refine ⟨.tuple #[], ?_, .tup [], .tuple #[], st.g, E'.cut, hr, rfl, rfl, s1.cut, hext, undef_rel⟩
      simp only [results, Sem.run_bind]
      exact andThen_eq hm (by simp)
    | v1 :: v2 :: vr, x1 :: x2 :: xr, _, hx2, hr, hm =>
      refine ⟨.tuple (x1 :: x2 :: xr).toArray, ?_, .tup (v1 :: v2 :: vr), _, st.g, E'.cut, hr, rfl, rfl, s1.cut, hext, .tup _ _ hx2.1 hx2.2⟩
      simp only [results, Sem.run_bind]
      exact andThen_eq hm (by simp)
 intro e a w' hq
 cases e with
 | normal => exact fin a w' hq
 | ret => exact fin a w' hq
 | exit id => obtain ⟨fr, st, E', h1, _⟩ := hq; exact h1.elim
 | goto l => exact hq.elim
 | panic ch => exact hq.elim
 | outgrown => exact hq.elim
theorem fn_okZ {f : Nat} {F : AFn} (hk : okFn P f F = true) {args : List V} (hn : args.length = F.nparams) {K : V → Heap → Prop}
 (hw : wpZ 0 (ACall P) F.body (retK F.results K) (paramFrame 0 args) (gst noG)) : ACall P f args noG K := fn_okN hk hn hw
end
end Go.Eng
/-
Runs from the empty heap that are spelt out; at a loop's head memory may be told anew.
-/
namespace Go.Eng
open Go
structure SLoopZ (N : Nat) (A : CallP) (b : AC) (ib : RunC') (Q : Ex → Fr → St → Prop) (fr : Fr) (st : St) : Prop where
 h : ∀ R : Fr → St → Prop, (∀ fr st fr' st', TelN N fr st fr' st' → ib (seqK R Q) fr' st' → R fr st) → R fr st
theorem SLoopZ.by {N : Nat} {A : CallP} {b : AC} {ib : RunC'} {Q : Ex → Fr → St → Prop} {fr : Fr} {st : St} (I : Nat → Fr → St → Prop) (n : Nat) (h0 : ∃ fr' st', TelN N fr st fr' st' ∧ I n fr' st')
 (hs : ∀ n fr st, I n fr st → ∀ R : Fr → St → Prop, (∀ m fr st, m < n → (∃ fr' st', TelN N fr st fr' st' ∧ I m fr' st') → R fr st) → ib (seqK R Q) fr st) : SLoopZ N A b ib Q fr st := by
 refine ⟨fun R hR => ?_⟩
 have key : ∀ n fr st, (∃ fr' st', TelN N fr st fr' st' ∧ I n fr' st') → R fr st := by
  intro n
  induction n using Nat.strongRecOn with
  | _ n ih =>
    rintro fr st ⟨fr', st', hc, hi⟩
    exact hR fr st fr' st' hc (hs n fr' st' hi R fun m fr st hm hi => ih m hm fr st hi)
 exact key n fr st h0
noncomputable def spZ (N : Nat) (A : CallP) (c : AC) : RunC' :=
 AC.rec (motive := fun _ => RunC') (fun Q fr st => Q .normal fr st) (fun ops Q fr st => (runOpsF ops fr st).sq A (regK Q)) (fun ds kill Q fr st => ((runDF ds [] fr st).bq (cutT kill)).sq A (regK Q))
  (fun _ _ ia ib Q fr st => ia (seqK (ib Q) Q) fr st)
  (fun c _ _ ia ib Q fr st => match c.ev fr with
    | .b x => SIf x (ia Q fr st) (ib Q fr st)
    | _ => False)
  (fun id _ ib Q fr st => ib (blkK id Q) fr st) (fun b ib Q fr st => SLoopZ N A b ib Q fr st) (fun id Q fr st => Q (.exit id) fr st) (fun Q fr st => Q .ret fr st) (fun _ _ _ => False) c
theorem spZ_cond (N : Nat) (A : CallP) (c : Opd) (a b : AC) (Q : Ex → Fr → St → Prop) (fr : Fr) (st : St) : spZ N A (.cond c a b) Q fr st = match c.ev fr with
 | .b x => SIf x (spZ N A a Q fr st) (spZ N A b Q fr st)
 | _ => False := rfl
theorem spZ_wp {N : Nat} {A : CallP} (hA : A.Mono) : ∀ (c : AC) (Q Q' : Ex → Fr → St → Prop) (fr : Fr) (st : St), spZ N A c Q fr st → (∀ e fr st, Q e fr st → Q' e fr st) → wpZ N A c Q' fr st
 | .skip, Q, Q', fr, st, h, hq => hq _ _ _ h
 | .reg ops, Q, Q', fr, st, h, hq => by
   have h : (runOpsF ops fr st).sq A (regK Q) := h
   rw [T.sq_eq] at h
   exact T.wp_mono hA (fun ⟨_, _⟩ h => hq _ _ _ h) (runOpsF_wp hA ops fr st _ (T.sp_wp hA _ _ h))
 | .dreg ds kill, Q, Q', fr, st, h, hq => by
   refine T.wp_mono hA (fun ⟨_, _⟩ h => hq _ _ _ h) (?_ : T.wp A _ (regK Q))
   have h : ((runDF ds [] fr st).bq (cutT kill)).sq A (regK Q) := h
   rw [T.sq_eq, T.bq_eq] at h
   have h := T.sp_wp hA _ _ h
   rw [T.wp_bind] at h ⊢
   exact runDF_wp hA _ _ _ _ _ h
 | .seq a b, Q, Q', fr, st, h, hq => by
   refine spZ_wp hA a _ _ fr st h ?_
   intro e fr st h
   cases e with
   | normal => exact spZ_wp hA b _ _ fr st h hq
   | exit id => exact hq _ _ _ h
   | ret => exact hq _ _ _ h
 | .cond c a b, Q, Q', fr, st, h, hq => by
   rw [spZ_cond] at h
   simp only [wpZ]
   split at h
   · rename_i x hx
     try rw [hx]
     exact ⟨fun hc => spZ_wp hA a _ _ _ _ (h.t hc) hq, fun hc => spZ_wp hA b _ _ _ _ (h.f hc) hq⟩
   · exact h.elim
 | .blk id b, Q, Q', fr, st, h, hq => by
   refine spZ_wp hA b _ _ fr st h ?_
   intro e fr st h
   cases e with
   | normal => exact hq _ _ _ h
   | exit id' =>
     simp only [blkK] at h ⊢
     split
     · rename_i hi; rw [if_pos hi] at h; exact hq _ _ _ h
     · rename_i hi; rw [if_neg hi] at h; exact hq _ _ _ h
   | ret => exact hq _ _ _ h
 | .loop b, Q, Q', fr, st, h, hq => by
   intro R hR
   refine h.h R fun fr st fr' st' hl hx => hR fr st fr' st' hl ?_
   refine spZ_wp hA b _ _ fr' st' hx ?_
   intro e fr st h
   cases e with
   | normal => exact h
   | exit id => exact hq _ _ _ h
   | ret => exact hq _ _ _ h
 | .exit id, Q, Q', fr, st, h, hq => hq _ _ _ h
 | .ret, Q, Q', fr, st, h, hq => hq _ _ _ h
 | .no, _, _, _, _, h, _ => h.elim
theorem fn_sz {P : Program} {f : Nat} {F : AFn} (hk : okFn P f F = true) {args : List V} (hn : args.length = F.nparams) {K : V → Heap → Prop}
 (hw : (paramFrame 0 args).fS fun fr => spZ 0 (ACall P) F.body (retK F.results K) fr (gst noG)) : ACall P f args noG K := by
 rw [Fr.fS_eq] at hw
 exact fn_okZ hk hn (spZ_wp (ACall.mono P) _ _ _ _ _ hw fun _ _ _ h => h)
theorem fn_sn {P : Program} {f : Nat} {F : AFn} (hk : okFn P f F = true) {args : List V} (hn : args.length = F.nparams) {h0 : Heap} {K : V → Heap → Prop}
 (hw : (paramFrame 0 args).fS fun fr => spZ h0.next (ACall P) F.body (retK F.results K) fr (gst h0)) : ACall P f args h0 K := by
 rw [Fr.fS_eq] at hw
 exact fn_okN hk hn (spZ_wp (ACall.mono P) _ _ _ _ _ hw fun _ _ _ h => h)
theorem spZ_mono {N : Nat} {A : CallP} (hA : A.Mono) : ∀ (c : AC) (Q Q' : Ex → Fr → St → Prop) (fr : Fr) (st : St), spZ N A c Q fr st → (∀ e fr st, Q e fr st → Q' e fr st) → spZ N A c Q' fr st
 | .skip, Q, Q', fr, st, h, hq => hq _ _ _ h
 | .reg ops, Q, Q', fr, st, h, hq => by
   have h : (runOpsF ops fr st).sq A (regK Q) := h
   show (runOpsF ops fr st).sq A (regK Q')
   rw [T.sq_eq] at h ⊢
   exact T.sp_mono hA _ (fun ⟨_, _⟩ h => hq _ _ _ h) h
 | .dreg ds kill, Q, Q', fr, st, h, hq => by
   have h : ((runDF ds [] fr st).bq (cutT kill)).sq A (regK Q) := h
   show ((runDF ds [] fr st).bq (cutT kill)).sq A (regK Q')
   rw [T.sq_eq] at h ⊢
   exact T.sp_mono hA _ (fun ⟨_, _⟩ h => hq _ _ _ h) h
 | .seq a b, Q, Q', fr, st, h, hq => by
   refine spZ_mono hA a _ _ fr st h ?_
   intro e fr st h
   cases e with
   | normal => exact spZ_mono hA b _ _ fr st h hq
   | exit id => exact hq _ _ _ h
   | ret => exact hq _ _ _ h
 | .cond c a b, Q, Q', fr, st, h, hq => by
   rw [spZ_cond] at h ⊢
   split at h
   · exact ⟨fun hc => spZ_mono hA a _ _ _ _ (h.t hc) hq, fun hc => spZ_mono hA b _ _ _ _ (h.f hc) hq⟩
   · exact h.elim
 | .blk id b, Q, Q', fr, st, h, hq => by
   refine spZ_mono hA b _ _ fr st h ?_
   intro e fr st h
   cases e with
   | normal => exact hq _ _ _ h
   | exit id' =>
     simp only [blkK] at h ⊢
     split
     · rename_i hi; rw [if_pos hi] at h; exact hq _ _ _ h
     · rename_i hi; rw [if_neg hi] at h; exact hq _ _ _ h
   | ret => exact hq _ _ _ h
 | .loop b, Q, Q', fr, st, h, hq => by
   refine SLoopZ.mk fun R hR => h.h R fun fr st fr' st' hl hx => hR fr st fr' st' hl ?_
   refine spZ_mono hA b _ _ fr' st' hx ?_
   intro e fr st h
   cases e with
   | normal => exact h
   | exit id => exact hq _ _ _ h
   | ret => exact hq _ _ _ h
 | .exit id, Q, Q', fr, st, h, hq => hq _ _ _ h
 | .ret, Q, Q', fr, st, h, hq => hq _ _ _ h
 | .no, _, _, _, _, h, _ => h.elim
theorem SLoopZ.un {N : Nat} {P : Program} {b : AC} {ib : RunC'} {Q : Ex → Fr → St → Prop} {fr : Fr} {st : St} (hib : spZ N (ACall P) b = ib) (h : ib (seqK (SLoopZ N (ACall P) b ib Q) Q) fr st) : SLoopZ N (ACall P) b ib Q fr st := by
 subst hib
 refine ⟨fun R hR => hR fr st fr st (.inl ⟨rfl, rfl⟩) (spZ_mono (ACall.mono P) b _ _ fr st h ?_)⟩
 intro e fr st hx
 cases e with
 | normal => exact hx.h R hR
 | exit id => exact hx
 | ret => exact hx
/-! Memory told anew, where it is spelt out. -/
def FrC (ρ : Ren) (b : Lim) (F : Fz) (fr' fr : Fr) : Prop := ∀ t, Ce2 ρ b F (fr.get t) (fr'.get t)
theorem FrC.nil {ρ : Ren} {b : Lim} {F : Fz} {fr : Fr} : FrC ρ b F [] fr := fun _ => .inl (.inl .junk)
theorem FrC.cons {ρ : Ren} {b : Lim} {F : Fz} {n : Nat} {v : V} {r fr : Fr} (h : Ce2 ρ b F (fr.get n) v) (hr : FrC ρ b F r fr) : FrC ρ b F ((n, v) :: r) fr := by
 intro t
 simp only [Fr.get]
 split
 · rename_i hn; subst hn; exact h
 · exact hr t
def ObsC (ρ : Ren) (F : Fz) (mk : Nat → Key) (f : Nat → Nat) (n : Nat) (b : Lim) (h : Heap) : List (Nat × Obj) → Prop
 | [] => True
 | q :: r => (q.1 < n ∧ F (mk (f q.1)) = none ∧ ∃ o, h.get (f q.1) = some o ∧ CeO ρ b F o q.2) ∧ ObsC ρ F mk f n b h r
theorem ObsC.get {ρ : Ren} {F : Fz} {mk : Nat → Key} {f : Nat → Nat} {n : Nat} {b : Lim} {h : Heap} : ∀ {l : List (Nat × Obj)}, ObsC ρ F mk f n b h l → ∀ {k : Nat} {o : Obj}, Heap.find l k = some o → k < n ∧ F (mk (f k)) = none ∧ ∃ o0, h.get (f k) = some o0 ∧ CeO ρ b F o0 o
 | [], _, k, o, hk => by simp [Heap.find] at hk
 | (i, x) :: r, hh, k, o, hk => by
  simp only [Heap.find] at hk
  split at hk
  · rename_i e
    subst e
    cases hk
    exact hh.1
  · exact ObsC.get hh.2 hk
theorem Tel.of {N : Nat} {ρ : Ren} {F : Fz} {fr fr' : Fr} {st st' : St} (hz : FzOf st F) (hg : ObsC ρ F .g ρ.g st'.g.next ⟨st'.g.next, 0⟩ st.g st'.g.objs) (hl : ObsC ρ F .l ρ.l st'.l.next ⟨st'.g.next, st'.l.next⟩ st.l st'.l.objs)
 (ig : ∀ i, i < st'.g.next → ∀ j, j < st'.g.next → ρ.g i = ρ.g j → i = j) (il : ∀ i, i < st'.l.next → ∀ j, j < st'.l.next → ρ.l i = ρ.l j → i = j)
 (hf : FrC ρ ⟨st'.g.next, st'.l.next⟩ F fr' fr) (hN : ∀ i, i < N → ρ.g i = i) (hN2 : N ≤ st'.g.next) : TelN N fr st fr' st' := by
 refine .inr ⟨ρ, F, ?_, hN, hN2⟩
 have hob : ∀ k o', st'.get k = some o' → st'.lim.has k ∧ F (ρ.key k) = none ∧ ∃ o, st.get (ρ.key k) = some o ∧ CeO ρ (k.lim st'.lim) F o o' := by
  intro k o hk
  cases k with
  | g n => exact hg.get hk
  | l n => exact hl.get hk
 refine ⟨hz, fun k k' ⟨o, hk⟩ ⟨o', hk'⟩ e => ?_, hob, hf⟩
 have h1 := (hob k o hk).1
 have h2 := (hob k' o' hk').1
 cases k with
 | g n => cases k' with
   | g m =>
     simp only [Ren.key, Key.g.injEq] at e
     rw [ig n h1 m h2 e]
   | l m => simp [Ren.key] at e
 | l n => cases k' with
   | g m => simp [Ren.key] at e
   | l m =>
     simp only [Ren.key, Key.l.injEq] at e
     rw [il n h1 m h2 e]
end Go.Eng
/-
Functions of values: how their contracts are shown, and used.
-/
namespace Go.Eng
open Go
/-! Values that name nothing are told as they are. -/
theorem flat_ren {v : V} (h : v.flat = true) (ρ : Ren) : v.ren0 ρ = v := by
 cases v <;> simp [V.flat] at h <;> (try rfl)
 case sl t z e => cases t <;> first | rfl | simp at h
theorem flat_bd {v : V} (h : v.flat = true) (b : Lim) : v.bd0 b := by
 cases v <;> simp [V.flat] at h <;> (try trivial)
 case sl t z e => cases t <;> first | trivial | simp at h
theorem ce_flat {ρ : Ren} {b : Lim} {F : Fz} {v : V} (h : v.flat = true) : Ce ρ b F v v := .ren (flat_ren h ρ).symm (flat_bd h b)
theorem ceL_flat {ρ : Ren} {b : Lim} {F : Fz} : ∀ {l : List V}, l.all V.flat = true → CeL ρ b F l l
 | [], _ => trivial
 | v :: r, h => by
   simp only [List.all_cons, Bool.and_eq_true] at h
   exact ⟨ce_flat h.1, ceL_flat h.2⟩
theorem ce1_free {ρ : Ren} {b : Lim} {F : Fz} {v : V} (h : v.free1 = true) : Ce1 ρ b F v v := by
 cases v
 case agg cs => exact .inr (.inl ⟨cs, cs, rfl, rfl, ceL_flat h⟩)
 case fn f a c =>
  simp only [V.free1, Bool.and_eq_true] at h
  exact .inr (.inr ⟨f, a, c, a, c, rfl, rfl, ceL_flat h.1, ceL_flat h.2⟩)
 all_goals exact .inl (ce_flat h)
theorem ce1L_free {ρ : Ren} {b : Lim} {F : Fz} : ∀ {l : List V}, l.all V.free1 = true → Ce1L ρ b F l l
 | [], _ => trivial
 | v :: r, h => by
   simp only [List.all_cons, Bool.and_eq_true] at h
   exact ⟨ce1_free h.1, ce1L_free h.2⟩
theorem ce2_free {ρ : Ren} {b : Lim} {F : Fz} {v : V} (h : v.free = true) : Ce2 ρ b F v v := by
 cases v
 case tup cs => exact .inr ⟨cs, cs, rfl, rfl, ce1L_free h⟩
 all_goals exact .inl (ce1_free h)
theorem fzOf_no {st : St} : FzOf st noFz := fun k sz ds h => by cases h
theorem ce2_tok {ρ : Ren} {b : Lim} {F : Fz} {k k' : Key} {sz : Nat} {es : List (List V)} (e : ρ.key k' = k) (h : b.has k') : Ce2 ρ b F (.sl (some k) sz es) (.sl (some k') sz es) :=
 .inl (.inl (.ren (by simp only [V.ren0, e]) h))
theorem ce2_untok {ρ : Ren} {b : Lim} {F : Fz} {t : Option Key} {sz : Nat} {es : List (List V)} : Ce2 ρ b F (.sl t sz es) (.sl none sz es) := by
 cases t with
 | none => exact .inl (.inl (.ren rfl trivial))
 | some k => exact .inl (.inl .tok)
theorem ce2_nil {ρ : Ren} {b : Lim} {F : Fz} {sz : Nat} : Ce2 ρ b F .nils (.sl none sz []) := .inl (.inl .nil)
theorem ce2_p {ρ : Ren} {b : Lim} {F : Fz} {k k' : Key} {o : Nat} (e : ρ.key k' = k) (h : b.has k') : Ce2 ρ b F (.p k o) (.p k' o) := .inl (.inl (.ren (by simp only [V.ren0, e]) h))
theorem ce2_ms {ρ : Ren} {b : Lim} {F : Fz} {k k' : Key} {sz s n : Nat} (e : ρ.key k' = k) (h : b.has k') : Ce2 ρ b F (.ms k sz s n) (.ms k' sz s n) := .inl (.inl (.ren (by simp only [V.ren0, e]) h))
theorem ce2_m {ρ : Ren} {b : Lim} {F : Fz} {k k' : Key} (e : ρ.key k' = k) (h : b.has k') : Ce2 ρ b F (.m k) (.m k') := .inl (.inl (.ren (by simp only [V.ren0, e]) h))
def ren0' : Ren := ⟨id, id⟩
theorem tel0 {fr fr' : Fr} {st : St} (hf : FrC ren0' ⟨0, 0⟩ noFz fr' fr) : TelR fr st fr' (gst noG) :=
 Tel.of fzOf_no trivial trivial (fun i hi => absurd hi (Nat.not_lt_zero _)) (fun i hi => absurd hi (Nat.not_lt_zero _)) hf (fun i hi => absurd hi (Nat.not_lt_zero _)) (Nat.zero_le _)
def st1 : St := ⟨noG, ⟨1, [(0, .spare)]⟩⟩
theorem telL (ks : List Nat) {n : Nat} {objs : List (Nat × Obj)} {fr fr' : Fr} {st : St} (hn : ks.length = n) (hd : ks.Nodup) (hl : ObsC ⟨id, fun i => ks.getD i 0⟩ noFz .l (fun i => ks.getD i 0) n ⟨0, n⟩ st.l objs) (hf : FrC ⟨id, fun i => ks.getD i 0⟩ ⟨0, n⟩ noFz fr' fr) :
 TelR fr st fr' ⟨noG, ⟨n, objs⟩⟩ := by
 refine Tel.of fzOf_no trivial hl (fun i hi => absurd hi (Nat.not_lt_zero _)) (fun i hi j hj e => ?_) hf (fun i hi => absurd hi (Nat.not_lt_zero _)) (Nat.zero_le _)
 have h1 : i < ks.length := by rw [hn]; exact hi
 have h2 : j < ks.length := by rw [hn]; exact hj
 have e' : ks.getD i 0 = ks.getD j 0 := e
 simp only [List.getD_eq_getElem?_getD, List.getElem?_eq_getElem h1, List.getElem?_eq_getElem h2, Option.getD_some] at e'
 exact (List.getElem_inj hd).1 e'
theorem inj_getD {ks : List Nat} {n : Nat} (hn : ks.length = n) (hd : ks.Nodup) : ∀ i, i < n → ∀ j, j < n → ks.getD i 0 = ks.getD j 0 → i = j := by
 intro i hi j hj e
 have h1 : i < ks.length := by omega
 have h2 : j < ks.length := by omega
 simp only [List.getD_eq_getElem?_getD, List.getElem?_eq_getElem h1, List.getElem?_eq_getElem h2, Option.getD_some] at e
 exact (List.getElem_inj hd).1 e
theorem telGL (gs ls : List Nat) {n m : Nat} {gobjs lobjs : List (Nat × Obj)} {fr fr' : Fr} {st : St} (hn : gs.length = n) (hm : ls.length = m) (hd : gs.Nodup) (he : ls.Nodup)
 (hg : ObsC ⟨fun i => gs.getD i 0, fun i => ls.getD i 0⟩ noFz .g (fun i => gs.getD i 0) n ⟨n, 0⟩ st.g gobjs) (hl : ObsC ⟨fun i => gs.getD i 0, fun i => ls.getD i 0⟩ noFz .l (fun i => ls.getD i 0) m ⟨n, m⟩ st.l lobjs)
 (hf : FrC ⟨fun i => gs.getD i 0, fun i => ls.getD i 0⟩ ⟨n, m⟩ noFz fr' fr) : TelR fr st fr' ⟨⟨n, gobjs⟩, ⟨m, lobjs⟩⟩ :=
 Tel.of fzOf_no hg hl (inj_getD hn hd) (inj_getD hm he) hf (fun i hi => absurd hi (Nat.not_lt_zero _)) (Nat.zero_le _)
theorem telGLN (N : Nat) (gs ls : List Nat) {n m : Nat} {gobjs lobjs : List (Nat × Obj)} {fr fr' : Fr} {st : St} (hn : gs.length = n) (hm : ls.length = m) (hd : gs.Nodup) (he : ls.Nodup) (hN : ∀ i, i < N → gs.getD i 0 = i) (hN2 : N ≤ n)
 (hg : ObsC ⟨fun i => gs.getD i 0, fun i => ls.getD i 0⟩ noFz .g (fun i => gs.getD i 0) n ⟨n, 0⟩ st.g gobjs) (hl : ObsC ⟨fun i => gs.getD i 0, fun i => ls.getD i 0⟩ noFz .l (fun i => ls.getD i 0) m ⟨n, m⟩ st.l lobjs)
 (hf : FrC ⟨fun i => gs.getD i 0, fun i => ls.getD i 0⟩ ⟨n, m⟩ noFz fr' fr) : TelN N fr st fr' ⟨⟨n, gobjs⟩, ⟨m, lobjs⟩⟩ :=
 Tel.of fzOf_no hg hl (inj_getD hn hd) (inj_getD hm he) hf hN hN2
theorem ceLL_map {α : Type} {R : α → List V} {ρ : Ren} {b : Lim} {F : Fz} (h : ∀ x, (R x).all V.flat = true) : ∀ l : List α, CeLL ρ b F (l.map R) (l.map R)
 | [] => trivial
 | x :: r => ⟨ceL_flat (h x), ceLL_map h r⟩
/-! What a function of values answers. -/
def PureAt (Q : V → Prop) (v : V) (h' : Heap) : Prop := ∃ ρ F u, Tel ρ F [(0, v)] (gst h') [(0, u)] (gst noG) ∧ u.free = true ∧ Q u
theorem tel_out {ρ : Ren} {F : Fz} {v u : V} {h' : Heap} (hz : FzOf (gst h') F) (hc : Ce2 ρ ⟨0, 0⟩ F v u) : Tel ρ F [(0, v)] (gst h') [(0, u)] (gst noG) := by
 refine ⟨hz, fun k k' hk => absurd hk noG_live, fun k o hk => absurd ⟨o, hk⟩ noG_live, fun t => ?_⟩
 simp only [Fr.get]
 split
 · exact hc
 · exact .inl (.inl .junk)
def ren0 : Ren := ⟨id, id⟩
theorem pure_free {Q : V → Prop} {v : V} {h' : Heap} (hf : v.free = true) (hq : Q v) : PureAt Q v h' := ⟨ren0, noFz, v, tel_out fzOf_no (ce2_free hf), hf, hq⟩
theorem pure_tok {Q : V → Prop} {t : Option Key} {sz : Nat} {es : List (List V)} {h' : Heap} (hq : Q (.sl none sz es)) : PureAt Q (.sl t sz es) h' := ⟨ren0, noFz, _, tel_out fzOf_no ce2_untok, rfl, hq⟩
theorem pure_nil {Q : V → Prop} {sz : Nat} {h' : Heap} (hq : Q (.sl none sz [])) : PureAt Q .nils h' := ⟨ren0, noFz, _, tel_out fzOf_no ce2_nil, rfl, hq⟩
theorem pure_ce {Q : V → Prop} {v u : V} {h' : Heap} (F : Fz) (hz : FzOf (gst h') F) (hc : Ce2 ren0 ⟨0, 0⟩ F v u) (hf : u.free = true) (hq : Q u) : PureAt Q v h' := ⟨ren0, F, u, tel_out hz hc, hf, hq⟩
def fz1 (k : Nat) (sz : Nat) (ds : List (List V)) : Fz := fun k' => if k' = .g k then some (sz, ds) else none
theorem fz1_of {k sz : Nat} {es ds : List (List V)} {h' : Heap} (h : h'.get k = some (.arr sz es)) (hd : deepElems es = some ds) : FzOf (gst h') (fz1 k sz ds) := by
 intro k' sz' ds' e
 unfold fz1 at e
 split at e
 · rename_i hk; subst hk; cases e; exact ⟨es, h, hd⟩
 · cases e
theorem pure_ms {Q : V → Prop} {k sz s n : Nat} {es ds : List (List V)} {h' : Heap} (h : h'.get k = some (.arr sz es)) (hd : deepElems es = some ds) (hn : s + n ≤ ds.length) (hq : Q (.sl none sz ((ds.drop s).take n))) : PureAt Q (.ms (.g k) sz s n) h' :=
 pure_ce (fz1 k sz ds) (fz1_of h hd) (.inl (.inl (.frz (by simp [fz1]) hn rfl))) rfl hq
theorem pure_fn {P : Program} {f : Nat} {F : AFn} (hk : okFn P f F = true) {args : List V} (hn : args.length = F.nparams) {Q : V → Prop}
 (hw : (paramFrame 0 args).fS fun fr => spZ 0 (ACall P) F.body (retK F.results (PureAt Q)) fr (gst noG)) : Pure P f args Q := fn_sz hk hn hw
/-! A call: what is handed over may be told less of. -/
theorem ren0_key (k : Key) : ren0.key k = k := by cases k <;> rfl
theorem ren0_id (v : V) : v.ren0 ren0 = v := by
 cases v <;> (try rfl) <;> (try simp only [V.ren0, ren0_key])
 case sl t z e => cases t <;> simp only [V.ren0, ren0_key]
def NwL : List V → List V → Prop := Ce1L ren0 ⟨0, 0⟩ noFz
theorem ce_nw {E : Env} (hn : Env) (hI : hn = { E with ng := 0, nl := 0 }) {u v : V} {x : Value} (hc : Ce ren0 ⟨0, 0⟩ noFz u v) (hr : Rel E u x) : Rel E v x := by
 cases hc with
 | ren e hb =>
   have : v.ren0 ren0 = v := ren0_id v
   rw [e, this] at hr
   exact hr
 | frz h => cases h
 | tok => cases hr with
   | deep hd => cases hd
   | tsl _ _ _ a cap hk hd hb' hs' => exact .deep hd
 | @rows t sz es ds h => cases hr with
   | deep hd =>
     cases t with
     | some k => cases hd
     | none => exact .deep (hd.nd (.sl h))
   | tsl _ _ _ a cap hk hd hb' hs' => exact .deep (hd.nd (.sl h))
 | nil => cases hr with
   | deep hd => cases hd with
     | nils => exact .deep (.slNil _)
 | junk => exact .junk x
theorem ce1_nw {E : Env} {u v : V} {x : Value} (hc : Ce1 ren0 ⟨0, 0⟩ noFz u v) (hr : Rel E u x) : Rel E v x := by
 rcases hc with hc | ⟨cs, ds, rfl, rfl, hc⟩ | ⟨f, a, c, a', c', rfl, rfl, ha, hc⟩
 · exact ce_nw _ rfl hc hr
 · cases hr with
   | deep hd => cases hd
   | agg _ xs hn h1 hr =>
     obtain ⟨c1, c2⟩ := hc.spec
     exact .agg _ _ (by omega) h1 fun j v x hj hx => by
      obtain ⟨u, hu, hc⟩ := c2 j v hj
      exact ce_nw _ rfl hc (hr j u x hu hx)
 · cases hr with
   | deep hd => cases hd
   | fn _ _ _ ya yc hna hnc hra hrc =>
     obtain ⟨a1, a2⟩ := ha.spec
     obtain ⟨c1, c2⟩ := hc.spec
     exact .fn _ _ _ _ _ (by omega) (by omega) (fun j v x hj hx => by
      obtain ⟨u, hu, hc⟩ := a2 j v hj
      exact ce_nw _ rfl hc (hra j u x hu hx)) (fun j v x hj hx => by
      obtain ⟨u, hu, hc⟩ := c2 j v hj
      exact ce_nw _ rfl hc (hrc j u x hu hx))
theorem ACall.less {P : Program} {f : Nat} {args args' : List V} {h : Heap} {K : V → Heap → Prop} (hr : NwL args args') (h0 : ACall P f args' h K) : ACall P f args h K := by
 refine ⟨h0.1, fun E w vs hnl hs hv => h0.2 E w vs hnl hs ?_⟩
 obtain ⟨c1, c2⟩ := hr.spec
 refine ⟨by have := hv.1; omega, fun j v x hj hx => ?_⟩
 obtain ⟨u, hu, hc⟩ := c2 j v hj
 exact ce1_nw hc (hv.2 j u x hu hx)
theorem Pure.call {P : Program} {f : Nat} {args args' : List V} {Q : V → Prop} (h0 : Pure P f args' Q) (hr : NwL args args') (ha : args'.all V.free = true) {h : Heap} {K : V → Heap → Prop} (hK : ∀ u, Q u → K u h) : ACall P f args h K :=
 (h0.use ha fun u _ hq => hK u hq).less hr
theorem Pure.call1 {P : Program} {f : Nat} {args args' : List V} {u : V} (h0 : Pure P f args' (· = u)) (hr : NwL args args') (ha : args'.all V.free = true) {h : Heap} {K : V → Heap → Prop} (hK : K u h) : ACall P f args h K :=
 h0.call hr ha fun v hv => hv ▸ hK
theorem free_of_free1 {v : V} (h : v.free1 = true) : v.free = true := by
 cases v <;> first | exact h | simp [V.free1, V.flat] at h
theorem all_free {l : List V} (h : l.all V.free1 = true) : l.all V.free = true := by
 rw [List.all_eq_true] at h ⊢
 exact fun x hx => free_of_free1 (h x hx)
theorem Pure.go {P : Program} {f : Nat} {args : List V} {u : V} (h0 : Pure P f args (· = u)) (ha : args.all V.free1 = true) {h : Heap} {K : V → Heap → Prop} (hK : K u h) : ACall P f args h K :=
 h0.use (all_free ha) fun v _ hv => hv ▸ hK
theorem Pure.mono {P : Program} {f : Nat} {args : List V} {Q Q' : V → Prop} (h0 : Pure P f args Q) (h : ∀ u, Q u → Q' u) : Pure P f args Q' :=
 ACall.mono P _ _ _ _ _ (fun v h' ⟨ρ, F, u, h1, h2, h3⟩ => ⟨ρ, F, u, h1, h2, h u h3⟩) h0
end Go.Eng
/-
Heaps: what is found behind a push, a turn, a removal.
-/
namespace Go.Eng
theorem Heap.find_upd_ne {n m : Nat} (h : m ≠ n) (x : Obj) : ∀ l : List (Nat × Obj), Heap.find (Heap.upd l n x) m = Heap.find l m
 | [] => rfl
 | (k, o) :: r => by
  simp only [Heap.upd]
  by_cases hk : k = n
  · rw [if_pos hk]
    simp only [Heap.find]
    rw [if_neg (by rw [hk]; exact fun e => h e.symm), if_neg (by rw [hk]; exact fun e => h e.symm)]
  · rw [if_neg hk]
    simp only [Heap.find]
    rw [Heap.find_upd_ne h x r]
theorem Heap.find_upd_self {n : Nat} (x : Obj) : ∀ {l : List (Nat × Obj)} {o : Obj}, Heap.find l n = some o → Heap.find (Heap.upd l n x) n = some x
 | [], o, h => by simp [Heap.find] at h
 | (k, o') :: r, o, h => by
  simp only [Heap.upd]
  by_cases hk : k = n
  · rw [if_pos hk]; simp [Heap.find, hk]
  · rw [if_neg hk]
    simp only [Heap.find, if_neg hk] at h ⊢
    exact Heap.find_upd_self x h
theorem Heap.find_del_ne {n m : Nat} (h : m ≠ n) : ∀ l : List (Nat × Obj), Heap.find (Heap.del l n) m = Heap.find l m
 | [] => rfl
 | (k, o) :: r => by
  simp only [Heap.del]
  by_cases hk : k = n
  · rw [if_pos hk, Heap.find_del_ne h r]
    simp only [Heap.find]
    rw [if_neg (by rw [hk]; exact fun e => h e.symm)]
  · rw [if_neg hk]
    simp only [Heap.find]
    rw [Heap.find_del_ne h r]
theorem Heap.get_push_self (h : Heap) (o : Obj) : (h.push o).get h.next = some o := by simp [Heap.push, Heap.get, Heap.find]
theorem Heap.get_push_ne {h : Heap} {o : Obj} {n : Nat} (hn : n ≠ h.next) : (h.push o).get n = h.get n := by
 simp only [Heap.push, Heap.get, Heap.find]
 rw [if_neg fun e => hn e.symm]
theorem Heap.get_set_self {h : Heap} {o o' : Obj} {n : Nat} (hn : h.get n = some o') : (h.set n o).get n = some o := Heap.find_upd_self o hn
theorem Heap.get_set_ne {h : Heap} {o : Obj} {n m : Nat} (hn : m ≠ n) : (h.set n o).get m = h.get m := Heap.find_upd_ne hn o _
theorem Heap.get_remove_ne {h : Heap} {n m : Nat} (hn : m ≠ n) : (h.remove n).get m = h.get m := Heap.find_del_ne hn _
theorem Heap.gp {h : Heap} {o : Obj} {n : Nat} {x : Obj} (hn : n ≠ h.next) (hx : h.get n = some x) : (h.push o).get n = some x := by rw [Heap.get_push_ne hn]; exact hx
theorem Heap.gs {h : Heap} {o : Obj} {n m : Nat} {x : Obj} (hn : m ≠ n) (hx : h.get m = some x) : (h.set n o).get m = some x := by rw [Heap.get_set_ne hn]; exact hx
theorem Heap.gr {h : Heap} {n m : Nat} {x : Obj} (hn : m ≠ n) (hx : h.get m = some x) : (h.remove n).get m = some x := by rw [Heap.get_remove_ne hn]; exact hx
structure Heap.Keeps (but : Nat → Prop) (h h' : Heap) : Prop where
 next : h.next ≤ h'.next
 same : ∀ n, n < h.next → ¬ but n → h'.get n = h.get n
theorem Heap.Keeps.refl (b : Nat → Prop) (h : Heap) : Heap.Keeps b h h := ⟨Nat.le_refl _, fun _ _ _ => rfl⟩
theorem Heap.Keeps.trans {b : Nat → Prop} {h1 h2 h3 : Heap} (a : Heap.Keeps b h1 h2) (c : Heap.Keeps b h2 h3) : Heap.Keeps b h1 h3 :=
 ⟨Nat.le_trans a.next c.next, fun n hn hb => (c.same n (Nat.lt_of_lt_of_le hn a.next) hb).trans (a.same n hn hb)⟩
theorem Heap.Keeps.push {b : Nat → Prop} {h h' : Heap} (a : Heap.Keeps b h h') (o : Obj) : Heap.Keeps b h (h'.push o) :=
 ⟨Nat.le_succ_of_le a.next, fun n hn hb => (Heap.get_push_ne (by have := a.next; omega)).trans (a.same n hn hb)⟩
theorem Heap.Keeps.set {b : Nat → Prop} {h h' : Heap} (a : Heap.Keeps b h h') {k : Nat} (hk : b k ∨ h.next ≤ k) (o : Obj) : Heap.Keeps b h (h'.set k o) :=
 ⟨a.next, fun n hn hb => (Heap.get_set_ne (by rintro rfl; rcases hk with hk | hk; exact hb hk; omega)).trans (a.same n hn hb)⟩
theorem Heap.Keeps.remove {b : Nat → Prop} {h h' : Heap} (a : Heap.Keeps b h h') {k : Nat} (hk : b k ∨ h.next ≤ k) : Heap.Keeps b h (h'.remove k) :=
 ⟨a.next, fun n hn hb => (Heap.get_remove_ne (by rintro rfl; rcases hk with hk | hk; exact hb hk; omega)).trans (a.same n hn hb)⟩
theorem Heap.Keeps.mono {b b' : Nat → Prop} {h h' : Heap} (a : Heap.Keeps b h h') (hb : ∀ n, n < h.next → b n → b' n) : Heap.Keeps b' h h' :=
 ⟨a.next, fun n hn hn' => a.same n hn fun h => hn' (hb n hn h)⟩
end Go.Eng
/-
Functions of values that make one row of rows to be written to: what they promise from the empty heap holds in every heap.
-/
namespace Go.Eng
open Go
def V.up1 (n : Nat) : V → V
 | .ms (.g 0) sz a c => .ms (.g n) sz a c
 | v => v
def V.up (n : Nat) : V → V
 | .agg cs => .agg (cs.map (V.up1 n))
 | v => v.up1 n
def V.made1 : V → Bool
 | .ms (.g 0) _ _ _ => true
 | v => v.flat
def V.made : V → Bool
 | .agg cs => cs.all V.made1
 | v => v.made1
theorem made1_rel {E F : Env} {n : Nat} (hI : ImmLe E.I F.I) (hn : F.has (.g n)) (hμ : F.μ (.g n) = E.μ (.g 0)) {v : V} {x : Value} (hv : v.made1 = true) (hr : Rel E v x) : Rel F (v.up1 n) x := by
 unfold V.made1 at hv
 split at hv
 · cases hr with
   | deep hd => cases hd
   | ms _ _ _ _ a cap hk hc hf hb ha =>
     exact .ms _ _ _ _ _ _ hn hc (by rw [hμ]; exact hf) (by rw [hμ]; exact hb) (by rw [hμ]; exact ha)
 · rename_i h
   have : v.up1 n = v := by
    unfold V.up1
    split
    · exact absurd rfl (h _ _ _)
    · rfl
   rw [this]
   exact flat_rel hI hv hr
theorem madeV_rel {E F : Env} {n : Nat} (hI : ImmLe E.I F.I) (hn : F.has (.g n)) (hμ : F.μ (.g n) = E.μ (.g 0)) {v : V} {x : Value} (hv : v.made = true) (hr : Rel E v x) : Rel F (v.up n) x := by
 unfold V.made at hv
 split at hv
 · rename_i cs
   simp only [List.all_eq_true] at hv
   cases hr with
   | deep hd => cases hd
   | agg _ a ha h1 hra =>
     refine .agg _ _ (by simpa using ha) h1 fun j v x hj hx => ?_
     rw [List.getElem?_map] at hj
     cases hc : cs[j]? with
     | none => rw [hc] at hj; cases hj
     | some u =>
       rw [hc] at hj
       cases hj
       exact made1_rel hI hn hμ (hv u (List.mem_of_getElem? hc)) (hra j u x hc hx)
 · rename_i h
   have : v.up n = v.up1 n := by
    unfold V.up
    split
    · exact absurd rfl (h _)
    · rfl
   rw [this]
   exact made1_rel hI hn hμ hv hr
def oneG (sz : Nat) (es : List (List V)) : Heap := ⟨1, [(0, .arr sz es)]⟩
def MadeAt (Q : V → Nat → List (List V) → Prop) (v : V) (h' : Heap) : Prop :=
 ∃ u sz es, TelR [(0, v)] (gst h') [(0, u)] (gst (oneG sz es)) ∧ u.made = true ∧ (∀ e ∈ es, e.all V.flat = true) ∧ Q u sz es
theorem ACall.made {P : Program} {f : Nat} {args : List V} {Q : V → Nat → List (List V) → Prop} (h0 : ACall P f args noG (MadeAt Q)) (ha : args.all V.free = true) {h : Heap} {K : V → Heap → Prop}
 (hK : ∀ u sz es, Q u sz es → K (u.up h.next) (h.push (.arr sz es))) : ACall P f args h K := by
 refine ⟨h0.1, fun E w vs hnl hs hv => ?_⟩
 simp only [List.all_eq_true] at ha
 let E0 : Env := { I := E.I, μ := E.μ, ng := 0, nl := 0 }
 have hs0 : Sim E0 (gst noG) w := ⟨rfl, rfl, fun k hk => absurd hk noG_live, hs.imm, fun k o hk => absurd ⟨o, hk⟩ noG_live, fun k k' hk => absurd hk noG_live, fun k hk => absurd hk noG_live⟩
 have hv0 : RelL E0 args vs := ⟨hv.1, fun j v x hj hx => free_rel (E := E) (F := E0) (fun b o x h => h) (ha v (List.mem_of_getElem? hj)) (hv.2 j v x hj hx)⟩
 refine (h0.2 E0 w vs rfl hs0 hv0).mono ?_
 rintro e w' ⟨v, x, h', E1, ⟨u, sz, es, ht, hmade, hflat, hq⟩, rfl, hn, hs1, he1, hr1⟩
 obtain ⟨E', hs', he, hr'⟩ := ht.ok rfl rfl hs1 he1
 have hr := hr' 0 x hr1
 have hr : Rel E' u x := hr
 have himm : ImmLe E.I E'.I := he.le.imm
 have hng : h.next = E.ng := hs.ng
 have hob : (gst (oneG sz es)).get (.g 0) = some (.arr sz es) := rfl
 have hl0 : (gst (oneG sz es)).live (.g 0) := ⟨_, hob⟩
 have hblk : w.heap.size ≤ (E'.μ (.g 0)).blk := by
  rcases he.keyNew (.g 0) hl0 (fun hk => absurd hk (Nat.not_lt_zero _)) with h1 | ⟨k0, h1, _⟩
  · exact h1
  · exact absurd h1 noG_live
 have hsame : ∀ k, (gst h).live k → w'.heap[(E.μ k).blk]? = w.heap[(E.μ k).blk]? := fun k hk => he.same _ (hs.lt hk) fun k0 hk0 => absurd hk0 noG_live
 let G : Env := { I := E'.I, μ := fun k => if k = .g h.next then E'.μ (.g 0) else E.μ k, ng := h.next + 1, nl := E.nl }
 have hnew : ∀ k, E.has k → k ≠ .g h.next := fun k hk e => by
  subst e
  have : h.next < E.ng := hk
  omega
 have hμ : ∀ k, E.has k → G.μ k = E.μ k := fun k hk => if_neg (hnew k hk)
 have hle : E.Le G := ⟨himm, by show E.ng ≤ h.next + 1; omega, Nat.le_refl _, hμ⟩
 have hget : ∀ k, (gst (h.push (.arr sz es))).get k = if k = .g h.next then some (.arr sz es) else (gst h).get k := by
  intro k
  cases k with
  | g n =>
    show (h.push (.arr sz es)).get n = _
    rw [Heap.get_push]
    by_cases e : n = h.next
    · subst e; simp
    · rw [if_neg e, if_neg (fun e' => e (by cases e'; rfl))]; rfl
  | l n => simp [St.get]
 have hlive : ∀ k, (gst (h.push (.arr sz es))).live k → k = .g h.next ∨ ((gst h).live k ∧ k ≠ .g h.next) := by
  rintro k ⟨o, ho⟩
  rw [hget] at ho
  split at ho
  · rename_i e; exact .inl e
  · rename_i e; exact .inr ⟨⟨o, ho⟩, e⟩
 have hG : G.μ (.g h.next) = E'.μ (.g 0) := if_pos rfl
 refine ⟨u.up h.next, x, h.push (.arr sz es), G, hK u sz es hq, rfl, hnl, ⟨rfl, hs.nl, fun k hk => ?_, hs'.imm, fun k o hk => ?_, fun k k' hk hk' hne => ?_, fun k hk j h1 h2 => ?_⟩,
  ⟨hle, he.size, fun b o x hx => ?_, fun k hk hn => ?_, fun k hk hn => ?_, fun b hb _ => he.same b hb fun k hk => absurd hk noG_live, he.os, he.out, he.tape⟩, madeV_rel (E := E') (F := G) (n := h.next) (fun b o x h => h) (Nat.lt_succ_self _) hG hmade hr⟩
 · rcases hlive k hk with rfl | ⟨hk, _⟩
   · show h.next < h.next + 1; omega
   · exact hle.has (hs.dom k hk)
 · rw [hget] at hk
   split at hk
   · rename_i e
     subst e
     cases hk
     have := hs'.obj _ _ hob
     rw [hG]
     obtain ⟨hl, cells, t, fz, r1, r2, r3, r4, r5⟩ := this
     refine ⟨hl, cells, t, fz, r1, r2, r3, r4, fun j v hj => ?_⟩
     obtain ⟨x, hx, hrx, h1⟩ := r5 j v hj
     refine ⟨x, hx, flat_rel (E := E'.at (.g 0)) (F := G.at (.g h.next)) (fun b o x h => h) ?_ hrx, h1⟩
     have hm := List.mem_of_getElem? hj
     obtain ⟨l, hl1, hl2⟩ := List.mem_flatten.1 hm
     exact List.all_eq_true.1 (hflat l hl1) v hl2
   · have hlv : (gst h).live k := ⟨o, hk⟩
     rw [hμ k (hs.dom k hlv)]
     exact (hs.obj k o hk).keep (Env.at_mono hle k) (hsame k hlv)
 · rcases hlive k hk with rfl | ⟨h1, e1⟩
   · rcases hlive k' hk' with rfl | ⟨h2, e2⟩
     · exact absurd rfl hne
     · rw [hG, hμ k' (hs.dom k' h2)]
       have := hs.lt h2
       omega
   · rcases hlive k' hk' with rfl | ⟨h2, e2⟩
     · rw [hG, hμ k (hs.dom k h1)]
       have := hs.lt h1
       omega
     · rw [hμ k (hs.dom k h1), hμ k' (hs.dom k' h2)]
       exact hs.sep k k' h1 h2 hne
 · rcases hlive k hk with rfl | ⟨hk, _⟩
   · rw [hG] at h1 h2 ⊢
     exact hs'.own _ hl0 j h1 h2
   · rw [hμ k (hs.dom k hk)] at h1 h2 ⊢
     show E'.I (E.μ k).blk j = none
     cases hx : E'.I (E.μ k).blk j with
     | none => rfl
     | some y =>
       rcases he.immNew _ _ _ hx with h3 | h3 | ⟨k0, h3, _⟩
       · have := hs.own k hk j h1 h2
         rw [show E0.I = E.I from rfl, this] at h3
         cases h3
       · have := hs.lt hk
         omega
       · exact absurd h3 noG_live
 · rcases he.immNew b o x hx with h1 | h1 | ⟨k0, h1, _⟩
   · exact .inl h1
   · exact .inr (.inl h1)
   · exact absurd h1 noG_live
 · rcases hlive k hk with rfl | ⟨h1, _⟩
   · exact absurd rfl (hnew _ hn)
   · exact h1
 · rcases hlive k hk with rfl | ⟨h1, _⟩
   · rw [hG]; exact .inl hblk
   · exact absurd (hs.dom k h1) hn
end Go.Eng
/-
Arguments of plain data: what is read of them as abstract values.
-/
namespace Go.Eng
open Go
inductive Sh where
 | b
 | i (k : IntKind)
 | s
 | sl (row : List Sh)
mutual
def Sh.is : Sh → V → Prop
 | .b, v => ∃ x, v = .b x
 | .i k, v => ∃ n, v = .i k n ∧ k.min ≤ n ∧ n ≤ k.max
 | .s, v => ∃ l, v = .s l ∧ l.length ≤ 9223372036854775807
 | .sl row, v => ∃ es, v = .sl none row.length es ∧ es.length ≤ 9223372036854775807 ∧ ∀ e ∈ es, Sh.isL row e
def Sh.isL : List Sh → List V → Prop
 | [], [] => True
 | a :: r, v :: q => a.is v ∧ Sh.isL r q
 | _, _ => False
end
def shFields (P : Program) (rec : TypeId → Option (List Sh)) : List Field → List Sh → Option (List Sh)
 | [], acc => some acc
 | f :: r, acc => match rec f.type with
   | some s => if f.offset = acc.length ∧ s.length = P.cellsOf f.type then shFields P rec r (acc ++ s) else none
   | none => none
def shTimes (r : List Sh) : Nat → List Sh
 | 0 => []
 | n + 1 => r ++ shTimes r n
def shOf (P : Program) : Nat → TypeId → Option (List Sh)
 | 0, _ => none
 | m + 1, t => match P.underlying t with
   | some .bool => some [.b]
   | some (.int k) => some [.i k]
   | some .string => some [.s]
   | some (.slice e) => match shOf P m e with
     | some r => if r.length = P.cellsOf e ∧ 0 < r.length then some [.sl r] else none
     | none => none
   | some (.struct fs) => match shFields P (shOf P m) fs.toList [] with
     | some r => if r.length = P.cellsOf t then some r else none
     | none => none
   | some (.array n e) => match shOf P m e with
     | some r => if r.length = P.cellsOf e ∧ n * r.length = P.cellsOf t then some (shTimes r n) else none
     | none => none
   | _ => none
theorem isL_length : ∀ {r : List Sh} {q : List V}, Sh.isL r q → q.length = r.length
 | [], [], _ => rfl
 | [], _ :: _, h => by simp [Sh.isL] at h
 | _ :: _, [], h => by simp [Sh.isL] at h
 | _ :: r, _ :: q, h => by simp only [Sh.isL] at h; simp [isL_length h.2]
theorem isL_append : ∀ {r : List Sh} {q : List V} {r' : List Sh} {q' : List V}, Sh.isL r q → Sh.isL r' q' → Sh.isL (r ++ r') (q ++ q')
 | [], [], _, _, _, h => h
 | [], _ :: _, _, _, h, _ => by simp [Sh.isL] at h
 | _ :: _, [], _, _, h, _ => by simp [Sh.isL] at h
 | _ :: r, _ :: q, _, _, h, h' => by simp only [Sh.isL, List.cons_append] at h ⊢; exact ⟨h.1, isL_append h.2 h'⟩
def RowD (I : Imm) (row : List V) (cs : List Value) : Prop := row.length = cs.length ∧ ∀ (j : Nat) (v : V) (x : Value), row[j]? = some v → cs[j]? = some x → RelD I v x
theorem RowD.append {I : Imm} {r r' : List V} {c c' : List Value} (h : RowD I r c) (h' : RowD I r' c') : RowD I (r ++ r') (c ++ c') := by
 refine ⟨by simp [h.1, h'.1], fun j v x hj hx => ?_⟩
 rw [List.getElem?_append] at hj hx
 rw [← h.1] at hx
 split at hj
 · rename_i hlt
   rw [if_pos hlt] at hx
   exact h.2 j v x hj hx
 · rename_i hlt
   rw [if_neg hlt] at hx
   exact h'.2 _ v x hj hx
theorem RowD.one {I : Imm} {v : V} {x : Value} (h : RelD I v x) : RowD I [v] [x] := ⟨rfl, fun j v' x' hj hx => by
 cases j with
 | zero => simp at hj hx; subst hj; subst hx; exact h
 | succ j => simp at hj⟩
theorem wf_range {k : IntKind} {n : Int} (h : (Lit.int k n).wf = true) : k.min ≤ n ∧ n ≤ k.max := by
 simpa [Lit.wf, IntKind.has] using h
section
variable {H : Type} {enc : TypeId × Value → H} {P : Program} {W : World}
def ReadsAs (P : Program) (W : World) (enc : TypeId × Value → H) (fuel m : Nat) : Prop := ∀ (t : TypeId) (cs : List Value) (x : DataW H × List MemPlace) (r : List Sh),
 DataW.trod enc P W 0 (fun _ => true) true fuel t cs = some x → shOf P m t = some r → ∃ row, Sh.isL r row ∧ RowD (cellIn W) row cs
theorem fields_row {m n : Nat} (ih : ReadsAs P W enc n m) {cs : List Value} : ∀ (fs : List Field) (acc r : List Sh) (row : List V) , shFields P (shOf P m) fs acc = some r → Sh.isL acc row → RowD (cellIn W) row (cs.take acc.length) → acc.length ≤ cs.length →
 (∀ f ∈ fs, ∃ x, DataW.trod enc P W 0 (fun _ => true) true n f.type ((cs.drop f.offset).take (P.cellsOf f.type)) = some x) → r.length = cs.length → ∃ row', Sh.isL r row' ∧ RowD (cellIn W) row' cs
 | [], acc, r, row, h, h1, h2, h3, h4, h5 => by
   simp only [shFields, Option.some.injEq] at h
   subst h
   rw [h5, List.take_length] at h2
   exact ⟨row, h1, h2⟩
 | f :: fs, acc, r, row, h, h1, h2, h3, h4, h5 => by
   simp only [shFields] at h
   split at h
   case h_2 => cases h
   rename_i s hs
   split at h
   case isFalse => cases h
   rename_i hc
   obtain ⟨x, hx⟩ := h4 f (by simp)
   obtain ⟨row2, g1, g2⟩ := ih _ _ _ _ hx hs
   have hl : row2.length = s.length := isL_length g1
   have hl2 := g2.1
   simp only [List.length_take, List.length_drop] at hl2
   have e : cs.take (acc ++ s).length = cs.take acc.length ++ (cs.drop f.offset).take (P.cellsOf f.type) := by
    rw [List.length_append, List.take_add, hc.1, hc.2]
   refine fields_row ih fs (acc ++ s) r (row ++ row2) h (isL_append h1 g1) ?_ ?_ (fun f hf => h4 f (by simp [hf])) h5
   · rw [e]; exact h2.append g2
   · rw [List.length_append]; omega
theorem times_row {m n : Nat} {e : TypeId} {r : List Sh} (ih : ReadsAs P W enc n m) (he : shOf P m e = some r) (hr : r.length = P.cellsOf e) : ∀ (k : Nat) (cs : List Value), cs.length = k * r.length →
 (∀ i, i < k → ∃ x, DataW.trod enc P W 0 (fun _ => true) true n e ((cs.drop (i * P.cellsOf e)).take (P.cellsOf e)) = some x) → ∃ row, Sh.isL (shTimes r k) row ∧ RowD (cellIn W) row cs
 | 0, cs, h1, _ => by
   have : cs = [] := by simpa using h1
   subst this
   exact ⟨[], by simp [shTimes, Sh.isL], rfl, fun j v x hj => by simp at hj⟩
 | k + 1, cs, h1, h2 => by
   obtain ⟨x, hx⟩ := h2 0 (by omega)
   obtain ⟨row1, a1, a2⟩ := ih _ _ _ _ hx he
   obtain ⟨row2, b1, b2⟩ := times_row ih he hr k (cs.drop r.length) (by rw [List.length_drop, h1, Nat.add_mul]; omega) (fun i hi => by
    obtain ⟨y, hy⟩ := h2 (i + 1) (by omega)
    refine ⟨y, ?_⟩
    rw [List.drop_drop, hr, show P.cellsOf e + i * P.cellsOf e = (i + 1) * P.cellsOf e by rw [Nat.add_mul]; omega]
    exact hy)
   refine ⟨row1 ++ row2, isL_append a1 b1, ?_⟩
   have := a2.append b2
   rw [Nat.zero_mul, List.drop_zero, ← hr, List.take_append_drop] at this
   exact this
theorem reads_as : ∀ (fuel m : Nat), ReadsAs P W enc fuel m
 | 0, _, t, cs, x, r, h, _ => by simp [DataW.trod] at h
 | _ + 1, 0, t, cs, x, r, _, h => by simp [shOf] at h
 | n + 1, m + 1, t, cs, x, r, h, hs => by
   simp only [shOf] at hs
   split at hs
   · rename_i ht
     cases hs
     obtain ⟨b, rfl, _⟩ := DataW.trod_bool ht h
     exact ⟨[.b b], by simp [Sh.isL, Sh.is], .one (.b b)⟩
   · rename_i k ht
     cases hs
     obtain ⟨q, rfl, _, hw⟩ := DataW.trod_int ht h
     exact ⟨[.i k q], by simp [Sh.isL, Sh.is, wf_range hw], .one (.i k q)⟩
   · rename_i ht
     cases hs
     obtain ⟨s, rfl, _, hw⟩ := DataW.trod_string ht h
     refine ⟨[.s s.data.toList], ?_, .one (.s s.data.toList)⟩
     simp only [Sh.isL, Sh.is, and_true]
     refine ⟨_, rfl, ?_⟩
     have : s.size ≤ 2 ^ 63 - 1 := hw
     have e : s.data.toList.length = s.size := by simp
     omega
   · rename_i e ht
     split at hs
     case h_2 => cases hs
     rename_i r' hr'
     split at hs
     case isFalse => cases hs
     rename_i hsz
     cases hs
     rcases Go.Deep.open_slice ht h with ⟨rfl, _⟩ | ⟨a, len, cap, q, n', D, Pl, rfl, _, hlc, hcm, hq, _, hel⟩
     · exact ⟨[.sl none r'.length []], by simp [Sh.isL, Sh.is], .one (.slNil _)⟩
     · obtain ⟨hsz, hpos⟩ := hsz
       have hq' : q = cap := by simpa using hq
       subst hq'
       have hm : q ≤ 2 ^ 63 - 1 := hcm
       obtain ⟨blk, off, spot⟩ := a
       by_cases hq0 : q = 0
       · subst hq0
         obtain rfl : len = 0 := by omega
         exact ⟨[.sl none r'.length []], by simp [Sh.isL, Sh.is], .one (.slEmpty _ _)⟩
       · have hspot : spot = none := by
          obtain ⟨cs', hc, _⟩ := hel 0 (by omega)
          obtain ⟨_, hl, hcell⟩ := World.cells?_some hc
          have := hcell 0 (by omega)
          rw [Nat.zero_mul, List.getElem?_eq_getElem (by omega)] at this
          simp only [Addr.add, if_true, World.cell?] at this
          split at this
          · split at this
            · cases this
            · rename_i hs; simpa using hs
          · cases this
         subst hspot
         obtain ⟨f, hf⟩ := Go.Deep.choose_lt (α := List V) (n := len) (p := fun i row => Sh.isL r' row ∧ ∀ (j : Nat) (v : V), row[j]? = some v → ∃ y, cellIn W blk (off + (i * r'.length + j)) = some y ∧ RelD (cellIn W) v y) (fun i hi => by
          obtain ⟨cs', hc, ht'⟩ := hel i (by omega)
          obtain ⟨row, g1, g2⟩ := reads_as n' m _ _ _ _ ht' hr'
          refine ⟨row, g1, fun j v hj => ?_⟩
          obtain ⟨_, hl, hcell⟩ := World.cells?_some hc
          have hjl : j < cs'.length := by
           have := (List.getElem?_eq_some_iff.1 hj).1
           rw [g2.1] at this; exact this
          have h1 := hcell j (by omega)
          rw [List.getElem?_eq_getElem hjl, Addr.add_lit, Addr.add_lit, cell?_eq, ← hsz] at h1
          exact ⟨cs'[j], by rw [← Nat.add_assoc]; exact h1, g2.2 j v _ hj (List.getElem?_eq_getElem hjl)⟩)
         have hlen : ((List.range len).map f).length = len := by simp
         have hel2 : ∀ e ∈ (List.range len).map f, Sh.isL r' e := by
          intro e he
          obtain ⟨i, hi, rfl⟩ := List.mem_map.1 he
          exact (hf i (by simpa using hi)).1
         have hel3 : ∀ e ∈ (List.range len).map f, e.length = r'.length := fun e he => isL_length (hel2 e he)
         have key : ∀ J d, ((List.range len).map f).flatten[J]? = some d → ∃ y, cellIn W blk (off + J) = some y ∧ RelD (cellIn W) d y := by
          intro J d hJ
          have hJl : J < len * r'.length := by
           have := (List.getElem?_eq_some_iff.1 hJ).1
           rwa [flat_len hel3, hlen] at this
          have hi : J / r'.length < len := Nat.div_lt_of_lt_mul (by rwa [Nat.mul_comm] at hJl)
          have hj : J % r'.length < r'.length := Nat.mod_lt _ hpos
          have e1 : J / r'.length * r'.length + J % r'.length = J := by rw [Nat.mul_comm]; exact Nat.div_add_mod _ _
          have h2 := flat_get hel3 (ix := J / r'.length) (j := J % r'.length) (e := f (J / r'.length)) (by simp [hi]) hj
          rw [e1, hJ] at h2
          have := (hf _ hi).2 _ _ h2.symm
          rwa [e1] at this
         refine ⟨[.sl none r'.length ((List.range len).map f)], ?_, .one ?_⟩
         · simp only [Sh.isL, Sh.is, and_true]
           exact ⟨_, rfl, by rw [hlen]; omega, hel2⟩
         · have := RelD.sl (I := cellIn W) r'.length ((List.range len).map f) blk off q (fun J => (cellIn W blk (off + J)).getD default) (by rw [hlen]; exact hlc) hel3 (fun J d hJ => by
            obtain ⟨y, hy, _⟩ := key J d hJ
            rw [hy]; rfl) (fun J d hJ => by
            obtain ⟨y, hy, hr⟩ := key J d hJ
            rw [hy]; exact hr)
           rw [hlen] at this
           exact this
   · rename_i fs ht
     split at hs
     case h_2 => cases hs
     rename_i r' hr'
     split at hs
     case isFalse => cases hs
     rename_i hsz
     cases hs
     obtain ⟨xs, n', hn, _, hl, hxl, hf⟩ := DataW.trod_struct ht h
     have hn : n = n' := by omega
     subst hn
     refine fields_row (reads_as n m) fs.toList [] _ [] hr' trivial ⟨by simp, fun j v x hj => by simp at hj⟩ (Nat.zero_le _) (fun f hfm => ?_) (by rw [hsz, hl])
     obtain ⟨i, hi⟩ := List.getElem?_of_mem hfm
     have hi' : fs[i]? = some f := by simpa using hi
     have hlt : i < xs.length := by
      rw [hxl]
      have := (Array.getElem?_eq_some_iff.1 hi').1
      exact this
     exact ⟨xs[i], by rw [hf i f hi', List.getElem?_eq_getElem hlt]⟩
   · rename_i k e ht
     split at hs
     case h_2 => cases hs
     rename_i r' hr'
     split at hs
     case isFalse => cases hs
     rename_i hsz
     cases hs
     obtain ⟨xs, n', hn, _, hl, hxl, hf⟩ := DataW.trod_array ht h
     have hn : n = n' := by omega
     subst hn
     refine times_row (reads_as n m) hr' hsz.1 k cs (by rw [hl, hsz.2]) fun i hi => ?_
     exact ⟨xs[i]'(by omega), by rw [hf i hi, List.getElem?_eq_getElem (by omega)]⟩
   · cases hs
end
end Go.Eng
/-
A law of plain data: from the abstract run to the row's contract.
-/
namespace Go.Eng
open Go Go.ChangeShapes Go.WideShapes Go.ChangeAt Go.RowKit
def envOf (I : Imm) : Env := ⟨I, fun _ => ⟨0, 0, 0⟩, 0, 0⟩
theorem calls_over {P : Program} {f : Nat} {args : List V} {vs : Array Value} {I : Imm} (h : ACall P f args noG (fun r _ => r = .b true)) (W : World) (hI : ∀ b o x, I b o = some x → cellIn W b o = some x) (hv : RelL (envOf I) args vs) :
 Calls P f vs W fun e w' => e = .returned (.bool true) ∧ Below W.heap.size W w' := by
 have hs : Sim (envOf I) (gst noG) W := ⟨rfl, rfl, fun k hk => absurd hk noG_live, hI, fun k o hk => absurd ⟨o, hk⟩ noG_live, fun k k' hk => absurd hk noG_live, fun k hk => absurd hk noG_live⟩
 refine (h.2 (envOf I) W vs rfl hs hv).mono ?_
 rintro e w' ⟨v, x, h', E', rfl, rfl, hn, hs', he, hr⟩
 have hx : x = .bool true := by
  cases hr with
  | deep hd => cases hd; rfl
 subst hx
 exact ⟨rfl, he.os, he.tape, he.out, he.size, fun k hk => he.same k hk fun k0 hk0 => absurd hk0 noG_live⟩
abbrev ArgSh := Bool × List Sh
def argSh (P : Program) (t : TypeId) : Option ArgSh :=
 match P.underlying t with
 | some (.struct _) => (shOf P 40 t).map fun r => (true, r)
 | some (.array _ _) => (shOf P 40 t).map fun r => (true, r)
 | _ => (shOf P 40 t).map fun r => (false, r)
def argShs (P : Program) : List TypeId → Option (List ArgSh)
 | [] => some []
 | t :: r => match argSh P t, argShs P r with
   | some a, some b => some (a :: b)
   | _, _ => none
def ArgSh.Is : ArgSh → V → Prop
 | (true, r), v => ∃ row, v = .agg row ∧ Sh.isL r row
 | (false, r), v => Sh.isL r [v]
def ArgsIs : List ArgSh → List V → Prop
 | [], [] => True
 | a :: r, v :: q => a.Is v ∧ ArgsIs r q
 | _, _ => False
theorem RelD.oneC {I : Imm} {v : V} {x : Value} (h : RelD I v x) : x.oneCell' = true := by cases h <;> rfl
section
variable {H : Type} {enc : TypeId × Value → H} {P : Program} {W : World}
theorem arg_as {t : TypeId} {v : Value} {d : DataW H} {p : List MemPlace} {base : Nat} (h : DataW.Trod enc P W 0 (fun _ => true) true t v d p) (hok : Value.okWide P W .any base t v) {a : ArgSh} (hs : argSh P t = some a) :
 ∃ x : V, a.Is x ∧ Rel (envOf (cellIn W)) x v := by
 obtain ⟨fuel, h⟩ := h
 have agg : ∀ cs, v = .agg cs → ∀ r, shOf P 40 t = some r → a = (true, r) → ∃ x : V, a.Is x ∧ Rel (envOf (cellIn W)) x v := by
  rintro cs rfl r hr rfl
  obtain ⟨row, h1, h2⟩ := reads_as _ _ _ _ _ _ h hr
  refine ⟨.agg row, ⟨row, rfl, h1⟩, .agg _ _ (by have := h2.1; simpa [Value.cells] using this.symm) (fun j x hx => ?_) (fun j u x hj hx => .deep (h2.2 j u x hj (by simpa [Value.cells] using hx)))⟩
  have hlt : j < row.length := by
   have h3 := h2.1
   simp only [Value.cells, Array.length_toList] at h3
   have := (Array.getElem?_eq_some_iff.1 hx).1
   omega
  exact (h2.2 j row[j] x (List.getElem?_eq_getElem hlt) (by simpa [Value.cells] using hx)).oneC
 have one : v.cells = #[v] → ∀ r, shOf P 40 t = some r → a = (false, r) → ∃ x : V, a.Is x ∧ Rel (envOf (cellIn W)) x v := by
  rintro hc r hr rfl
  obtain ⟨row, h1, h2⟩ := reads_as _ _ _ _ _ _ h hr
  have hl := h2.1
  rw [hc] at hl h2
  match row, hl, h1, h2 with
  | [x], _, h1, h2 => exact ⟨x, h1, .deep (h2.2 0 x v rfl rfl)⟩
 unfold argSh at hs
 split at hs
 · rename_i fs ht
   obtain ⟨r, hr, rfl⟩ := Option.map_eq_some_iff.1 hs
   obtain ⟨cs, rfl, _⟩ := okWide_struct ht hok
   exact agg cs rfl r hr rfl
 · rename_i n e ht
   obtain ⟨r, hr, rfl⟩ := Option.map_eq_some_iff.1 hs
   have : ∃ cs, v = .agg cs := by
    unfold Value.okWide at hok
    rw [ht] at hok
    obtain ⟨cs, h, _⟩ := hok
    exact ⟨cs, h⟩
   obtain ⟨cs, rfl⟩ := this
   exact agg cs rfl r hr rfl
 · rename_i hn1 hn2
   obtain ⟨r, hr, rfl⟩ := Option.map_eq_some_iff.1 hs
   refine one ?_ r hr rfl
   have hr' := hr
   obtain ⟨m, hm⟩ : ∃ m, 40 = m + 1 := ⟨39, rfl⟩
   rw [hm] at hr'
   simp only [shOf] at hr'
   split at hr'
   · rename_i ht; obtain ⟨b, rfl⟩ := okWide_bool ht hok; rfl
   · rename_i k ht; obtain ⟨n, rfl⟩ := okWide_int ht hok; rfl
   · rename_i ht; obtain ⟨s, rfl⟩ := okWide_string ht hok; rfl
   · rename_i e ht; obtain ⟨p, l, c, rfl⟩ := okWide_slice ht hok; rfl
   · rename_i fs ht; exact absurd ht (hn1 fs)
   · rename_i n e ht; exact absurd ht (hn2 n e)
   · cases hr'
theorem args_as {base : Nat} : ∀ {ts : List TypeId} {vs : List Value} {ds : List (DataW H)} {p : List MemPlace} {as : List ArgSh}, DataW.TrodAll enc P W 0 (fun _ => true) true ts vs ds p →
 (∀ (j : Nat) t v, ts[j]? = some t → vs[j]? = some v → Value.okWide P W .any base t v) → argShs P ts = some as → ds.length = ts.length ∧ vs.length = ts.length ∧ ∃ args, ArgsIs as args ∧ RelL (envOf (cellIn W)) args vs.toArray
 | [], [], [], p, as, h, hok, hs => by
   simp only [argShs, Option.some.injEq] at hs
   subst hs
   exact ⟨rfl, rfl, [], trivial, rfl, fun j v x hj => by simp at hj⟩
 | t :: ts, v :: vs, d :: ds, p, as, h, hok, hs => by
   obtain ⟨p1, q, h1, h2, rfl⟩ := h
   simp only [argShs] at hs
   split at hs
   case h_2 => cases hs
   rename_i a b ha hb
   cases hs
   obtain ⟨x, x1, x2⟩ := arg_as h1 (hok 0 t v rfl rfl) ha
   obtain ⟨l1, l2, xs, y1, y2⟩ := args_as h2 (fun j t v hj hv => hok (j + 1) t v (by simpa using hj) (by simpa using hv)) hb
   refine ⟨by simp [l1], by simp [l2], x :: xs, ⟨x1, y1⟩, by have := y2.1; simpa using this, fun j u y hj hy => ?_⟩
   cases j with
   | zero => simp at hj hy; subst hj; subst hy; exact x2
   | succ j => exact y2.2 j u y (by simpa using hj) (by simpa using hy)
 | [], [], _ :: _, _, _, h, _, _ => h.elim
 | [], _ :: _, [], _, _, h, _, _ => h.elim
 | [], _ :: _, _ :: _, _, _, h, _, _ => h.elim
 | _ :: _, [], [], _, _, h, _, _ => h.elim
 | _ :: _, [], _ :: _, _, _, h, _, _ => h.elim
 | _ :: _, _ :: _, [], _, _, h, _, _ => h.elim
theorem all_stay (hl : laidOutB P = true) {W' : World} {sp' : Nat → Bool} : ∀ {ts : List TypeId} {vs : List Value} {ds : List (DataW H)} {p : List MemPlace}, (∀ t ∈ ts, P.readableRec t = true ∧ t < P.types.size) →
 DataW.TrodAll enc P W 0 (fun _ => true) true ts vs ds p → (∀ x ∈ p, W.sameAt W' x) → (∀ x ∈ p, sp' x.block = true) → DataW.TrodAll enc P W' 0 sp' true ts vs ds p
 | [], [], [], p, _, h, _, _ => h
 | t :: ts, v :: vs, d :: ds, p, hr, h, h1, h2 => by
   obtain ⟨p1, q, a1, a2, rfl⟩ := h
   exact ⟨p1, q, WideElems.Trod_stays hl (hr t (by simp)).1 (hr t (by simp)).2 a1 (fun x hx => h1 x (by simp [hx])) (fun x hx => h2 x (by simp [hx])),
    all_stay hl (fun t ht => hr t (by simp [ht])) a2 (fun x hx => h1 x (by simp [hx])) (fun x hx => h2 x (by simp [hx])), rfl⟩
 | [], [], _ :: _, _, _, h, _, _ => h.elim
 | [], _ :: _, [], _, _, h, _, _ => h.elim
 | [], _ :: _, _ :: _, _, _, h, _, _ => h.elim
 | _ :: _, [], [], _, _, h, _, _ => h.elim
 | _ :: _, [], _ :: _, _, _, h, _, _ => h.elim
 | _ :: _, _ :: _, [], _, _, h, _, _ => h.elim
theorem post_of_below {f : Func} {s : ChangeSpec} {apart fresh handsOn again : Bool} {W W' : World} {args : Array Value} {v : Value} {ds gs : List (DataW H)} {before pa pv : List MemPlace}
 (hW : DataW.Whole enc P f.params.toList s.vars apart W args.toList ds gs before)
 (hres : ∀ (b : Nat) (sp : Nat → Bool) (hd : Bool), DataW.TrodAll enc P W' b sp hd f.resultTypes.toList (v.resultList f.resultTypes.size) (s.fn H (ds ++ gs)).results [])
 (hargs : ∀ sp : Nat → Bool, (∀ p ∈ before, sp p.block = true) → DataW.TrodAll enc P W' 0 sp true f.params.toList args.toList (s.fn H (ds ++ gs)).args pa)
 (hvars : ∀ sp : Nat → Bool, (∀ p ∈ before, sp p.block = true) → DataW.TrodVars enc P W' sp s.vars (s.fn H (ds ++ gs)).vars pv)
 (hps : before = pa ++ pv) (hb : Below W.heap.size W W')
 (hok : ∀ (j : Nat) (t : TypeId) (r : Value), f.resultTypes[j]? = some t → (v.resultList f.resultTypes.size)[j]? = some r → Value.okWide P W' .any 0 t r) :
 s.post enc P f apart fresh handsOn again W args v W' := by
 have hold : ∀ p ∈ before, (fun b => decide (b < W.heap.size)) p.block = true := fun p hp => by simpa using hW.lt p hp
 have hk : W.keptBut W' (· ∈ before) := by
  refine ⟨hb.os, hb.output, fun i hi => ?_⟩
  rw [hb.block i hi]
  cases hq : W.heap[i]? with
  | none => rfl
  | some o => cases o <;> simp
 refine ⟨ds, gs, before, [], pa, pv, hW, hres _ _ _, hargs _ hold, hvars _ hold, World.keptBut_mono (fun p hp => ⟨hp, ?_⟩) hk, fun _ => ?_⟩
 · rw [hps, List.mem_append] at hp
   exact Or.inr hp
 · have hlt := hW.lt
   obtain ⟨_, _, _, _, _, hz, hn⟩ := hW
   refine ⟨hok, _, _, ([] ++ pa) ++ pv, ⟨[] ++ pa, pv, trodAll_append (hargs _ (fun _ _ => rfl)) (hres _ _ _), hvars _ (fun _ _ => rfl), rfl, ?_, ?_⟩, ?_⟩
   · intro b off hp
     have hp' : MemPlace.cell b off ∈ before := by rw [hps]; simpa using hp
     have := hz b off hp'
     have hbl := hlt _ hp'
     simp only [World.frozen?] at this ⊢
     rw [hb.block b hbl]
     exact this
   · intro ha
     have := hn ha
     rw [hps] at this
     simpa using this
   · intro p hp _
     rw [hps]
     simpa using hp
theorem law_lifted {C : Checked} {os : Os} {f : FuncId} {fn : Func} {s : ChangeSpec} {conds : List PathCond} {tb : TypeId} {shs : List ArgSh} (own : ownKnob C.prog.godebug = none) (started : os.Started) (noInit : C.prog.inits.idxOf? f = none) (hfn : C.prog.funcs[f]? = some fn)
 (witness : ∃ (w : World) (tape : Tape) (i : Input), w.os = os ∧ (w.forCall tape i).Shaped C.prog ∧ i.vars = [] ∧ Input.okWide C.prog (w.forCall tape i) .any w.heap.size f i ∧
   s.pre6 enc C.prog fn conds false (w.forCall tape i).memory i.args ∧ ({} : Assume).holds C.prog (lone (Frame.enter C.prog f i.args .normal) [] (w.forCall tape i)))
 (hl : laidOutB C.prog = true) (hr : fn.params.toList.all (fun t => C.prog.readableRec t && decide (t < C.prog.types.size)) = true) (hv : s.vars = []) (hsh : argShs C.prog fn.params.toList = some shs)
 (hres : fn.resultTypes = #[tb]) (hb : C.prog.underlying tb = some .bool)
 (hspec : ∀ ds : List (DataW H), ds.length = fn.params.toList.length → s.fn H ds = { results := [.lit (.bool true)], args := ds })
 (h : ∀ args, ArgsIs shs args → ACall C.prog f args noG (fun r _ => r = .b true)) :
 ReturnsInHanded {} C os f .any (s.pre6 enc C.prog fn conds false) (s.post enc C.prog fn false true false false) := by
 refine returnsInHanded_of_change own started noInit hfn witness ?_
 intro W base args ds gs before hval hW _ _
 have hW' := hW
 obtain ⟨p, q, hA, hV, rfl, hfz, hnd⟩ := hW
 rw [hv] at hV
 obtain ⟨rfl, rfl⟩ := trodVars_none hV
 obtain ⟨l1, l2, vs, a1, a2⟩ := args_as hA (fun j t v h1 h2 => hval j t v (by simpa using h1) (by simpa using h2)) hsh
 simp only [List.append_nil] at hW'
 have hlt : ∀ x ∈ p, x.block < W.heap.size := hW'.lt
 refine (calls_over (h vs a1) W (fun b o x hx => hx) (by simpa using a2)).mono ?_
 rintro e W' ⟨rfl, hbl⟩
 refine ⟨_, rfl, ?_⟩
 have hsp := hspec ds l1
 have hr' : ∀ t ∈ fn.params.toList, C.prog.readableRec t = true ∧ t < C.prog.types.size := fun t ht => by
  have := List.all_eq_true.1 hr t ht
  simpa using this
 have hstay : ∀ sp' : Nat → Bool, (∀ x ∈ p, sp' x.block = true) → DataW.TrodAll enc C.prog W' 0 sp' true fn.params.toList args.toList ds p := fun sp' h2 =>
  all_stay hl hr' hA (fun x hx => hbl.same (hlt x hx)) h2
 have hok : ∀ (j : Nat) (t : TypeId) (r : Value), fn.resultTypes[j]? = some t → ((Value.bool true).resultList fn.resultTypes.size)[j]? = some r → Value.okWide C.prog W' .any 0 t r := ok_one hres rfl (okWide_bool_mk hb true)
 refine post_of_below (pa := p) (pv := []) hW' (fun b sp hd => ?_) (fun sp h2 => ?_) (fun sp h2 => ?_) (by simp) hbl hok
 · rw [List.append_nil, hsp, hres]
   exact trodAll_mk1 (shut_bool hb true)
 · rw [List.append_nil, hsp]
   exact hstay sp h2
 · rw [List.append_nil, hsp, hv]
   rfl
end
end Go.Eng
