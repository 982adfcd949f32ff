/-
Symbolic runs: the same asks under heads that do not unfold, and a loop rule.
-/
import Derived.Test.YtfobkjdmohaakaaGreatEngFrame
namespace Go.Eng
open Go

structure SIf (c : Bool) (X Y : Prop) : Prop where
  t : c = true → X
  f : c = false → Y
structure SEx {β : Type} (o : Option β) (k : β → Prop) : Prop where
  h : ∃ x, o = some x ∧ k x
structure SOpt {β : Type} (o : Option β) (n : Prop) (k : β → Prop) : Prop where
  n : o = none → n
  s : ∀ x, o = some x → k x
structure SChk (c : Bool) (k : Prop) : Prop where
  c : c = true
  k : k
structure SWrap (kd : IntKind) (n : Int) (k : Int → Prop) : Prop where
  h : k (kd.wrap n)
structure SAny (k : Bool → Prop) : Prop where
  h : ∀ r, k r
structure SCall (A : CallP) (f : Nat) (as : List V) (h : Heap) (K : V → Heap → Prop) : Prop where
  h : A f as h K
structure SSame (v u : V) (k : Prop) : Prop where
  e : v = u
  k : k
structure SLoop (X : (Fr → St → Prop) → Fr → St → Prop) (fr : Fr) (st : St) : Prop where
  h : ∀ R : Fr → St → Prop, (∀ fr fr' st, Fr.le fr' fr → X R fr' st → R fr st) → R fr st

theorem SIf.tt {c : Bool} {X Y : Prop} (h : c = true) (x : X) : SIf c X Y := ⟨fun _ => x, fun h' => (by rw [h] at h'; cases h')⟩
theorem SIf.ff {c : Bool} {X Y : Prop} (h : c = false) (y : Y) : SIf c X Y := ⟨fun h' => (by rw [h] at h'; cases h'), fun _ => y⟩
theorem SIf.dt {p : Prop} [Decidable p] {X Y : Prop} (h : p) (x : X) : SIf (decide p) X Y := .tt (decide_eq_true h) x
theorem SIf.df {p : Prop} [Decidable p] {X Y : Prop} (h : ¬ p) (y : Y) : SIf (decide p) X Y := .ff (decide_eq_false h) y
theorem SIf.nt {p : Prop} [Decidable p] {X Y : Prop} (h : ¬ p) (x : X) : SIf (!decide p) X Y := .tt (by rw [decide_eq_false h]; rfl) x
theorem SIf.nf {p : Prop} [Decidable p] {X Y : Prop} (h : p) (y : Y) : SIf (!decide p) X Y := .ff (by rw [decide_eq_true h]; rfl) y
theorem SIf.ds {p : Prop} [Decidable p] {X Y : Prop} (x : p → X) (y : ¬ p → Y) : SIf (decide p) X Y := ⟨fun h => x (of_decide_eq_true h), fun h => y (of_decide_eq_false h)⟩
theorem SIf.ns {p : Prop} [Decidable p] {X Y : Prop} (x : ¬ p → X) (y : p → Y) : SIf (!decide p) X Y :=
  ⟨fun h => x (of_decide_eq_false (by simpa using h)), fun h => y (of_decide_eq_true (by simpa using h))⟩
theorem SEx.of {β : Type} {o : Option β} {k : β → Prop} {x : β} (h : o = some x) (hk : k x) : SEx o k := ⟨x, h, hk⟩
theorem SOpt.no {β : Type} {o : Option β} {n : Prop} {k : β → Prop} (h : o = none) (hn : n) : SOpt o n k := ⟨fun _ => hn, fun x hx => by rw [h] at hx; cases hx⟩
theorem SOpt.of {β : Type} {o : Option β} {n : Prop} {k : β → Prop} {x : β} (h : o = some x) (hk : k x) : SOpt o n k :=
  ⟨fun hn => (by rw [h] at hn; cases hn), fun y hy => by rw [h] at hy; cases hy; exact hk⟩
theorem SChk.d {p : Prop} [Decidable p] {k : Prop} (h : p) (hk : k) : SChk (decide p) k := ⟨decide_eq_true h, hk⟩
theorem SChk.d2 {p q : Prop} [Decidable p] [Decidable q] {k : Prop} (h : p) (h' : q) (hk : k) : SChk (decide p && decide q) k := ⟨by rw [decide_eq_true h, decide_eq_true h']; rfl, hk⟩
theorem SChk.d3 {p q r : Prop} [Decidable p] [Decidable q] [Decidable r] {k : Prop} (h : p) (h' : q) (h2 : r) (hk : k) : SChk (decide p && decide q && decide r) k :=
  ⟨by rw [decide_eq_true h, decide_eq_true h', decide_eq_true h2]; rfl, hk⟩
theorem SChk.ix {i : Int} {n : Nat} {k : Prop} (h : 0 ≤ i) (h' : i < n) (hk : k) : SChk (idxOk i n) k := ⟨by unfold idxOk; rw [decide_eq_true h, decide_eq_true h']; rfl, hk⟩
theorem SWrap.w64 {n : Int} {k : Int → Prop} (h1 : -9223372036854775808 ≤ n) (h2 : n ≤ 9223372036854775807) (hk : k n) : SWrap .i64 n k :=
  ⟨by rw [wrap_of_in (by simpa [IntKind.min, IntKind.bits, IntKind.signed] using h1) (by simpa [IntKind.max, IntKind.bits, IntKind.signed] using h2)]; exact hk⟩
theorem SWrap.wu {n : Int} {k : Int → Prop} (h1 : 0 ≤ n) (h2 : n ≤ 18446744073709551615) (hk : k n) : SWrap .u64 n k :=
  ⟨by rw [wrap_of_in (by simpa [IntKind.min, IntKind.bits, IntKind.signed] using h1) (by simpa [IntKind.max, IntKind.bits, IntKind.signed] using h2)]; exact hk⟩
theorem SWrap.of {kd : IntKind} {n : Int} {k : Int → Prop} (h1 : kd.min ≤ n) (h2 : n ≤ kd.max) (hk : k n) : SWrap kd n k := ⟨by rw [wrap_of_in h1 h2]; exact hk⟩

/-- A loop, by what grows less. -/
theorem SLoop.by {X : (Fr → St → Prop) → Fr → St → Prop} {fr : Fr} {st : St} (I : Nat → Fr → St → Prop) (n : Nat) (h0 : I n fr st)
    (hs : ∀ n fr st, I n fr st → ∃ fr', Fr.le fr' fr ∧ ∀ R : Fr → St → Prop, (∀ m fr st, m < n → I m fr st → R fr st) → X R fr' st) : SLoop X fr st := by
  refine ⟨fun R hR => ?_⟩
  have key : ∀ n fr st, I n fr st → R fr st := by
    intro n
    induction n using Nat.strongRecOn with
    | _ n ih =>
      intro fr st hi
      obtain ⟨fr', hle, hx⟩ := hs n fr st hi
      exact hR fr fr' st hle (hx R fun m fr st hm hi => ih m hm fr st hi)
  exact key n fr st h0

theorem SLoop.unroll {X : (Fr → St → Prop) → Fr → St → Prop} {fr : Fr} {st : St} (h : ∀ R : Fr → St → Prop, (∀ fr st, X R fr st → R fr st) → X R fr st) : SLoop X fr st :=
  ⟨fun R hR => hR _ _ _ (Fr.le_refl _) (h R fun _ _ hx => hR _ _ _ (Fr.le_refl _) hx)⟩

def T.sp {α : Type} (A : CallP) : T α → (α → Prop) → Prop
  | .ret a, K => K a
  | .ite c t e, K => SIf c (t.sp A K) (e.sp A K)
  | .elem o k, K => SEx o fun x => (k x).sp A K
  | .byte o k, K => SEx o fun x => (k x).sp A K
  | .els o k, K => SEx o fun x => (k x).sp A K
  | .bys o k, K => SEx o fun x => (k x).sp A K
  | .obj o k, K => SEx o fun x => (k x).sp A K
  | .optc o n k, K => SOpt o (n.sp A K) fun x => (k x).sp A K
  | .chk c k, K => SChk c (k.sp A K)
  | .wrap kd n k, K => SWrap kd n fun x => (k x).sp A K
  | .any k, K => SAny fun r => (k r).sp A K
  | .same v u k, K => SSame v u (k.sp A K)
  | .call f as h k, K => SCall A f as h fun r h' => (k r h').sp A K
  | .fail, _ => False
theorem T.sp_wp {α : Type} {A : CallP} (hA : A.Mono) (t : T α) : ∀ (K : α → Prop), t.sp A K → t.wp A K := by
  induction t with
  | ret a => exact fun K h => h
  | ite c t e iht ihe => exact fun K h => ⟨fun hc => iht K (h.t hc), fun hc => ihe K (h.f hc)⟩
  | elem o k ih => exact fun K ⟨⟨x, hx, hk⟩⟩ => ⟨x, hx, ih x K hk⟩
  | byte o k ih => exact fun K ⟨⟨x, hx, hk⟩⟩ => ⟨x, hx, ih x K hk⟩
  | els o k ih => exact fun K ⟨⟨x, hx, hk⟩⟩ => ⟨x, hx, ih x K hk⟩
  | bys o k ih => exact fun K ⟨⟨x, hx, hk⟩⟩ => ⟨x, hx, ih x K hk⟩
  | obj o k ih => exact fun K ⟨⟨x, hx, hk⟩⟩ => ⟨x, hx, ih x K hk⟩
  | optc o n k ihn ih => exact fun K h => ⟨fun hn => ihn K (h.n hn), fun x hx => ih x K (h.s x hx)⟩
  | chk c k ih => exact fun K h => ⟨h.c, ih K h.k⟩
  | wrap kd n k ih => exact fun K h => .inl (ih _ K h.h)
  | any k ih => exact fun K h r => ih r K (h.h r)
  | same v u k ih => exact fun K h => ⟨h.e, ih K h.k⟩
  | call f as hh k ih => exact fun K h => hA _ _ _ _ _ (fun r h' hr => ih r h' K hr) h.h
  | fail => exact fun K h => h

/-- 'elemsOf', 'doAppend', for lists that are not spelt out. -/
def elemsOfS (sz : Nat) (st : St) (v : V) (k : List (List V) → T R) : T R :=
  match v with
  | .ms key sz' s n => if sz' = sz then .obj (st.get key) fun o => match o with
      | .arr sz'' es => if sz'' = sz then .chk (decide (s + n ≤ es.length)) (.els (some ((es.drop s).take n)) k) else .fail
      | _ => .fail
    else .fail
  | v => elemsOf sz st v k
def doAppendS (m : SMode) (sz bytes : Nat) (st : St) (s : V) (new : List (List V)) : T R :=
  match s with
  | .nils => .ite new.isEmpty (.ret (.nils, st)) (.chk (roomOk new.length bytes) (newSlice m sz new st))
  | .sl tok sz' es => if sz' = sz then .ite new.isEmpty (.ret (.sl tok sz es, st))
      (.chk (roomOk (es.length + new.length) bytes) <| .els (deepElems new) fun ds => match tok with
        | some k => .obj (st.get k) fun o => match o with
          | .spare => .els (some (es ++ ds)) fun es' => .ret (.sl (some ((st.remove k).newKey k.isG)) sz es', (st.remove k).push k.isG .spare)
          | _ => .fail
        | none => .fail)
    else .fail
  | .ms k sz' off len => if sz' = sz then .ite new.isEmpty (.ret (.ms k sz off len, st))
      (.chk (roomOk (len + new.length) bytes) <| .els (ownElems k.isG new) fun ds => .obj (st.get k) fun o => match o with
        | .arr sz'' es => if sz'' = sz then
            .chk (decide (off + len ≤ es.length)) <| .ite (decide (off + len + ds.length ≤ es.length))
              (.els (some (es.take (off + len) ++ ds ++ es.drop (off + len + ds.length))) fun es' => .ret (.ms k sz off (len + ds.length), st.set k (.arr sz es')))
              (.els (some ((es.take (off + len)).drop off ++ ds)) fun es' => .ret (.ms ((st.remove k).newKey k.isG) sz 0 (len + ds.length), (st.remove k).push k.isG (.arr sz es')))
          else .fail
        | _ => .fail)
    else .fail
  | _ => .fail
theorem elemsOfS_wp {A : CallP} {sz : Nat} {st : St} {v : V} {k k' : List (List V) → T R} {K : R → Prop} (hk : ∀ es, (k es).wp A K → (k' es).wp A K) (h : (elemsOfS sz st v k).wp A K) : (elemsOf sz st v k').wp A K := by
  cases v <;> simp only [elemsOfS, elemsOf] at h ⊢
  case nils => exact hk _ h
  case sl tok sz' es =>
    split at h
    · rename_i hs; rw [if_pos hs]; exact hk _ h
    · exact h.elim
  case ms key sz' s n =>
    split at h
    · rename_i hs
      rw [if_pos hs]
      obtain ⟨o, ho, h⟩ := h
      refine ⟨o, ho, ?_⟩
      cases o <;> (try exact h.elim)
      dsimp only at h ⊢
      split at h
      · rename_i hz
        rw [if_pos hz]
        obtain ⟨h1, e, he, h2⟩ := h
        cases he
        exact ⟨h1, hk _ h2⟩
      · exact h.elim
    · exact h.elim
  case s x =>
    split at h
    · rename_i hs; rw [if_pos hs]; exact hk _ h
    · exact h.elim
  all_goals exact h.elim
theorem doAppendS_wp {A : CallP} {m : SMode} {sz bytes : Nat} {st : St} {s : V} {new : List (List V)} {K : R → Prop} (h : (doAppendS m sz bytes st s new).wp A K) : (doAppend m sz bytes st s new).wp A K := by
  cases s <;> simp only [doAppendS] at h <;> (try exact h.elim)
  case nils =>
    cases new with
    | nil => exact h.1 rfl
    | cons e r => exact h.2 rfl
  case sl tok sz' es =>
    simp only [doAppend]
    split at h
    case isFalse => exact h.elim
    rename_i hs
    rw [if_pos hs]
    cases new with
    | nil => exact h.1 rfl
    | cons e r =>
      obtain ⟨h1, ds, h2, h3⟩ := h.2 rfl
      refine ⟨h1, ds, h2, ?_⟩
      cases tok with
      | none => exact h3
      | some k =>
        obtain ⟨o, ho, h3⟩ := h3
        refine ⟨o, ho, ?_⟩
        cases o <;> (try exact h3.elim)
        obtain ⟨e', he, h4⟩ := h3
        cases he
        exact h4
  case ms k sz' off len =>
    simp only [doAppend]
    split at h
    case isFalse => exact h.elim
    rename_i hs
    rw [if_pos hs]
    cases new with
    | nil => exact h.1 rfl
    | cons e r =>
      obtain ⟨h1, ds, h2, o, ho, h3⟩ := h.2 rfl
      refine ⟨h1, ds, h2, o, ho, ?_⟩
      cases o <;> (try exact h3.elim)
      dsimp only at h3 ⊢
      split at h3
      case isFalse => exact h3.elim
      rename_i hz
      rw [if_pos hz]
      obtain ⟨h4, h5, h6⟩ := h3
      refine ⟨h4, fun hc => ?_, fun hc => ?_⟩
      · obtain ⟨e', he, h7⟩ := h5 hc
        cases he
        exact h7
      · obtain ⟨e', he, h7⟩ := h6 hc
        cases he
        exact h7

/-- 'step', where a row of cells that is not spelt out is asked. -/
def stepS (o : AOp) (fr : Fr) (st : St) : T R :=
  match o with
  | .load n a => match a.ev fr with
    | .p k off => .obj (st.get k) fun o => match o with
      | .cs c => .optc (ldCells c off n) .fail fun v => .ret (v, st)
      | _ => .fail
    | .pa k sz ix off => .obj (st.get k) fun o => match o with
      | .arr sz' es => if sz' = sz then .elem es[ix]? fun e => .optc (ldCells e off n) .fail fun v => .ret (v, st) else .fail
      | _ => .fail
    | .pc cs off => .optc (ldCells cs off n) .fail fun v => .ret (v, st)
    | _ => .fail
  | .fld off n x => match x.ev fr with
    | .agg cs => .optc (ldCells cs off n) .fail fun v => .ret (v, st)
    | _ => .fail
  | .ixa len sz n x i => match x.ev fr, i.ev fr with
    | .agg cs, .i _ j => .chk (idxOk j len) <| .optc (ldCells cs (j.toNat * sz) n) .fail fun v => .ret (v, st)
    | _, _ => .fail
  | .append m sz bytes s x => elemsOfS sz st (x.ev fr) fun new => doAppendS m sz bytes st (s.ev fr) new
  | .b2s x => elemsOfS 1 st (x.ev fr) fun es => .bys (bytesOf es) fun y => .ret (.s y, st)
  | .copy sz d x => elemsOfS sz st (x.ev fr) fun src => match d.ev fr with
    | .ms k sz' off len => if sz' = sz then .els (ownElems k.isG (src.take len)) fun ds => .obj (st.get k) fun o => match o with
        | .arr sz'' es => if sz'' = sz then
            .chk (decide (off + len ≤ es.length)) <| .els (some (es.take off ++ ds ++ es.drop (off + ds.length))) fun es' => .ret (.i .i64 (ds.length : Nat), st.set k (.arr sz es'))
          else .fail
        | _ => .fail
      else .fail
    | _ => .fail
  | .mnmx max xs => match Opd.evs fr xs with
    | v :: r => .optc (mnmxFold max v r) .fail fun v => .ret (v, st)
    | [] => .fail
  | .slsl sz x lo hi mx => match x.ev fr with
    | .sl tok sz' es => if sz' = sz then match mx with
        | none => match Opd.evo fr hi with
          | none => T.opt (boundOr (Opd.evo fr lo) 0) fun l => .chk (decide (0 ≤ l) && decide (l ≤ (es.length : Int))) <| .els (some (es.drop l.toNat)) fun es => .ret (.sl tok sz es, st)
          | some v => T.opt (intOf1 v) fun h => T.opt (boundOr (Opd.evo fr lo) 0) fun l =>
            .chk (decide (0 ≤ l) && decide (l ≤ h) && decide (h ≤ (es.length : Int))) <| .els (some ((es.take h.toNat).drop l.toNat)) fun es => .ret (.sl none sz es, st)
        | some _ => .fail
      else .fail
    | _ => step (.slsl sz x lo hi mx) fr st
  | .callv f args => match f.ev fr with
    | .fn g first cap => .elem (passes (first ++ Opd.evs fr args ++ cap)) fun vs => .call g vs st.g fun r h => .ret (r, ⟨h, st.l⟩)
    | _ => .fail
  | .store n a x => if (x.ev fr).sto = true ∧ (x.ev fr).cells.length = n then match a.ev fr with
      | .p k off => T.opt (ownG k.isG (x.ev fr).cells) fun vs => .obj (st.get k) fun o => match o with
        | .cs c => .chk (stFits c off vs) <| .elem (some (stCells c off vs)) fun c' => .ret (.tup [], st.set k (.cs c'))
        | _ => .fail
      | .pa k sz ix off => T.opt (ownG k.isG (x.ev fr).cells) fun vs => .obj (st.get k) fun o => match o with
        | .arr sz' es => if sz' = sz then .elem es[ix]? fun e => .chk (stFits e off vs) <| .els (some (es.set ix (stCells e off vs))) fun es' => .ret (.tup [], st.set k (.arr sz es')) else .fail
        | _ => .fail
      | _ => .fail
    else .fail
  | o => step o fr st

theorem opt_sp {α β : Type} {A : CallP} {o : Option V} {k : V → T β} {f : β → T α} {K : α → Prop} (h : ((T.optc o .fail k).bind f).wp A K) : ((T.opt o k).bind f).wp A K := by
  cases o with
  | none => exact h.1 rfl
  | some x => exact h.2 x rfl
theorem opt_sp' {β : Type} {A : CallP} {o : Option V} {k : V → T β} {K : β → Prop} (h : (T.optc o .fail k).wp A K) : (T.opt o k).wp A K := by
  cases o with
  | none => exact h.1 rfl
  | some x => exact h.2 x rfl
theorem stepS_wp {A : CallP} {o : AOp} {fr : Fr} {st : St} {K : R → Prop} (h : (stepS o fr st).wp A K) : (step o fr st).wp A K := by
  cases o
  case load n a =>
    simp only [stepS] at h
    simp only [step]
    generalize a.ev fr = v at h ⊢
    cases v <;> (try exact h)
    case p k off =>
      obtain ⟨o, ho, h⟩ := h
      refine ⟨o, ho, ?_⟩
      cases o <;> first | exact h | exact opt_sp' h
    case pa k sz ix off =>
      obtain ⟨o, ho, h⟩ := h
      refine ⟨o, ho, ?_⟩
      cases o <;> (try exact h)
      dsimp only at h ⊢
      split at h
      · rename_i hs
        rw [if_pos hs]
        obtain ⟨e, he, h⟩ := h
        exact ⟨e, he, opt_sp' h⟩
      · exact h.elim
    case pc cs off => exact opt_sp' h
  case fld off n x =>
    simp only [stepS] at h
    simp only [step]
    generalize x.ev fr = v at h ⊢
    cases v <;> (try exact h)
    exact opt_sp' h
  case ixa len sz n x i =>
    simp only [stepS] at h
    simp only [step]
    generalize x.ev fr = v at h ⊢
    generalize i.ev fr = u at h ⊢
    cases v <;> cases u <;> (try exact h)
    exact ⟨h.1, opt_sp' h.2⟩
  case append m sz bytes s x =>
    simp only [stepS] at h
    simp only [step]
    exact elemsOfS_wp (fun es h => doAppendS_wp h) h
  case b2s x =>
    simp only [stepS] at h
    simp only [step]
    exact elemsOfS_wp (fun es h => h) h
  case copy sz d x =>
    simp only [stepS] at h
    simp only [step]
    refine elemsOfS_wp (fun src h => ?_) h
    generalize d.ev fr = v at h ⊢
    cases v <;> (try exact h.elim)
    dsimp only at h ⊢
    split at h
    case isFalse => exact h.elim
    rename_i hs
    rw [if_pos hs]
    obtain ⟨ds, h1, o, ho, h⟩ := h
    refine ⟨ds, h1, o, ho, ?_⟩
    cases o <;> (try exact h.elim)
    dsimp only at h ⊢
    split at h
    case isFalse => exact h.elim
    rename_i hz
    rw [if_pos hz]
    obtain ⟨h2, e, he, h3⟩ := h
    cases he
    exact ⟨h2, h3⟩
  case mnmx max xs =>
    simp only [stepS] at h
    simp only [step]
    generalize Opd.evs fr xs = vs at h ⊢
    cases vs with
    | nil => exact h
    | cons v r => exact opt_sp' h
  case slsl sz x lo hi mx =>
    simp only [stepS] at h
    split at h
    case h_2 => exact h
    rename_i tok sz' es hx
    simp only [step, hx]
    split at h
    case isFalse => exact h.elim
    rename_i hs
    rw [if_pos hs]
    cases mx with
    | some q => exact h.elim
    | none =>
      dsimp only at h ⊢
      generalize Opd.evo fr hi = w at h ⊢
      cases w with
      | none =>
        dsimp only at h ⊢
        cases hb : boundOr (Opd.evo fr lo) 0 with
        | none => rw [hb] at h; exact h.elim
        | some l =>
          rw [hb] at h
          obtain ⟨h1, e, h2, h3⟩ := h
          cases h2
          exact ⟨h1, h3⟩
      | some v =>
        dsimp only at h ⊢
        cases hi : intOf1 v with
        | none => rw [hi] at h; exact h.elim
        | some u =>
        cases hb : boundOr (Opd.evo fr lo) 0 with
        | none => rw [hi, hb] at h; exact h.elim
        | some l =>
          rw [hi, hb] at h
          obtain ⟨h1, e, h2, h3⟩ := h
          cases h2
          exact ⟨h1, h3⟩
  case callv f args =>
    simp only [stepS] at h
    simp only [step]
    generalize f.ev fr = v at h ⊢
    cases v <;> (try exact h)
    obtain ⟨vs, h1, h2⟩ := h
    dsimp only
    rw [h1]
    exact h2
  case store n a x =>
    simp only [stepS] at h
    simp only [step]
    generalize x.ev fr = u at h ⊢
    generalize a.ev fr = v at h ⊢
    split at h
    case isFalse => exact h.elim
    rename_i hs
    rw [if_pos hs]
    cases v <;> (try exact h.elim)
    case p k off =>
      dsimp only at h ⊢
      cases hv : ownG k.isG u.cells with
      | none => rw [hv] at h; exact h.elim
      | some vs =>
        rw [hv] at h
        obtain ⟨o, ho, h⟩ := h
        refine ⟨o, ho, ?_⟩
        cases o <;> (try exact h.elim)
        obtain ⟨h1, c', h2, h3⟩ := h
        cases h2
        dsimp only
        rw [h1]
        exact h3
    case pa k sz ix off =>
      dsimp only at h ⊢
      cases hv : ownG k.isG u.cells with
      | none => rw [hv] at h; exact h.elim
      | some vs =>
        rw [hv] at h
        obtain ⟨o, ho, h⟩ := h
        refine ⟨o, ho, ?_⟩
        cases o <;> (try exact h.elim)
        dsimp only at h ⊢
        split at h
        case isFalse => exact h.elim
        rename_i hz
        rw [if_pos hz]
        obtain ⟨e, he, h1, c', h2, h3⟩ := h
        cases h2
        refine ⟨e, he, ?_⟩
        show T.wp A (match stFits e off vs with | true => _ | false => _) K
        rw [h1]
        exact h3
  all_goals exact h

def runOpsS : List AOper → Fr → St → T (Fr × St)
  | [], fr, st => .ret (fr, st)
  | o :: rest, fr, st =>
    match o.guard with
    | none => (stepS o.op fr st).bind fun x => match x with
      | (v, st) => fr.after o.dst v o.kill fun fr => runOpsS rest fr st
    | some (t, want) => match fr.get t with
      | .b x => match want with
        | true => .ite x
          (fr.cut [t] fun r => (stepS o.op ((t, .b true) :: r) st).bind fun x => match x with
            | (v, st) => Fr.after ((t, .b true) :: r) o.dst v o.kill fun fr => runOpsS rest fr st)
          (fr.cut [t] fun r => Fr.after ((t, .b false) :: r) o.dst (.tup []) o.kill fun fr => runOpsS rest fr st)
        | false => .ite x
          (fr.cut [t] fun r => Fr.after ((t, .b true) :: r) o.dst (.tup []) o.kill fun fr => runOpsS rest fr st)
          (fr.cut [t] fun r => (stepS o.op ((t, .b false) :: r) st).bind fun x => match x with
            | (v, st) => Fr.after ((t, .b false) :: r) o.dst v o.kill fun fr => runOpsS rest fr st)
      | .tup _ => fr.after o.dst (.tup []) o.kill fun fr => runOpsS rest fr st
      | _ => .fail
theorem runOpsS_wp {A : CallP} (hA : A.Mono) : ∀ (ops : List AOper) (fr : Fr) (st : St) (K : Fr × St → Prop), (runOpsS ops fr st).wp A K → (runOps ops fr st).wp A K
  | [], fr, st, K, h => h
  | o :: rest, fr, st, K, h => by
    have one : ∀ {fr0 : Fr}, ((stepS o.op fr0 st).bind fun x => match x with
        | (v, st) => fr0.after o.dst v o.kill fun fr => runOpsS rest fr st).wp A K → ((step o.op fr0 st).bind fun x => match x with
        | (v, st) => fr0.after o.dst v o.kill fun fr => runOps rest fr st).wp A K := by
      intro fr0 h
      rw [T.wp_bind] at h ⊢
      refine stepS_wp ?_
      revert h
      refine T.wp_mono hA ?_
      rintro ⟨v, st⟩ h
      dsimp only at h ⊢
      rw [Fr.after_eq] at h ⊢
      exact runOpsS_wp hA rest _ _ K h
    have two : ∀ {fr0 : Fr}, (fr0.after o.dst (.tup []) o.kill fun fr => runOpsS rest fr st).wp A K → (fr0.after o.dst (.tup []) o.kill fun fr => runOps rest fr st).wp A K := by
      intro fr0 h
      rw [Fr.after_eq] at h ⊢
      exact runOpsS_wp hA rest _ _ K h
    obtain ⟨dst, op, g, kill⟩ := o
    cases g with
    | none => exact one h
    | some q =>
      obtain ⟨t, want⟩ := q
      simp only [runOpsS] at h
      simp only [runOps]
      generalize fr.get t = v at h ⊢
      cases v <;> (try exact h)
      case b x =>
        cases want
        · refine ⟨fun hc => ?_, fun hc => ?_⟩
          · have h := h.1 hc
            rw [Fr.cut_eq] at h ⊢
            exact two h
          · have h := h.2 hc
            rw [Fr.cut_eq] at h ⊢
            exact one h
        · refine ⟨fun hc => ?_, fun hc => ?_⟩
          · have h := h.1 hc
            rw [Fr.cut_eq] at h ⊢
            exact one h
          · have h := h.2 hc
            rw [Fr.cut_eq] at h ⊢
            exact two h
      case tup vs => exact two h

def runDS : List DOper → List DOper → Fr → St → T (Fr × St)
  | _, [], fr, st => .ret (fr, st)
  | done, d :: rest, fr, st => gated d.o.guard fr
    (fun fr => (stepS d.o.op fr st).bind fun x => match x with
      | (v, st) => fr.after d.o.dst v [] fun fr => recheck d.re done fr st (runDS (d :: done) rest fr st))
    (fun fr => fr.after d.o.dst (.tup []) [] fun fr => runDS (d :: done) rest fr st)
theorem recheck_mono {α : Type} {A : CallP} (hA : A.Mono) {re : List Nat} {k k' : T α} {K K' : α → Prop} : ∀ {ds : List DOper} {fr : Fr} {st : St}, (k.wp A K → k'.wp A K') → (recheck re ds fr st k).wp A K → (recheck re ds fr st k').wp A K'
  | [], fr, st, hk, h => hk h
  | p :: ps, fr, st, hk, h => by
    simp only [recheck] at h ⊢
    split at h
    · split at h
      · rw [T.wp_bind] at h ⊢
        refine T.wp_mono hA ?_ h
        intro x hx
        split at hx
        · exact ⟨hx.1, recheck_mono hA hk hx.2⟩
        · exact recheck_mono hA hk hx
      · exact recheck_mono hA hk h
      · exact h
    · exact recheck_mono hA hk h
theorem gated_mono {α : Type} {A : CallP} {g : Option (Nat × Bool)} {fr : Fr} {y y' n n' : Fr → T α} {K K' : α → Prop} (hy : ∀ fr, (y fr).wp A K → (y' fr).wp A K') (hn : ∀ fr, (n fr).wp A K → (n' fr).wp A K')
    (h : (gated g fr y n).wp A K) : (gated g fr y' n').wp A K' := by
  unfold gated at h ⊢
  split at h
  · exact hy _ h
  · split at h
    · split at h
      · refine ⟨fun hc => ?_, fun hc => ?_⟩
        · have h := h.1 hc
          rw [Fr.cut_eq] at h ⊢
          exact hy _ h
        · have h := h.2 hc
          rw [Fr.cut_eq] at h ⊢
          exact hn _ h
      · refine ⟨fun hc => ?_, fun hc => ?_⟩
        · have h := h.1 hc
          rw [Fr.cut_eq] at h ⊢
          exact hn _ h
        · have h := h.2 hc
          rw [Fr.cut_eq] at h ⊢
          exact hy _ h
    · exact hn _ h
    · exact h
theorem runDS_wp {A : CallP} (hA : A.Mono) : ∀ (ds done : List DOper) (fr : Fr) (st : St) (K : Fr × St → Prop), (runDS done ds fr st).wp A K → (runD done ds fr st).wp A K
  | [], done, fr, st, K, h => h
  | d :: rest, done, fr, st, K, h => by
    simp only [runDS] at h
    simp only [runD]
    refine gated_mono (fun fr h => ?_) (fun fr h => ?_) h
    · rw [T.wp_bind] at h ⊢
      refine stepS_wp ?_
      refine T.wp_mono hA ?_ h
      rintro ⟨v, st⟩ h
      dsimp only at h ⊢
      rw [Fr.after_eq] at h ⊢
      exact recheck_mono hA (fun h => runDS_wp hA rest _ _ _ K h) h
    · rw [Fr.after_eq] at h ⊢
      exact runDS_wp hA rest _ _ _ K h

def spC (A : CallP) : AC → (Ex → Fr → St → Prop) → Fr → St → Prop
  | .skip, Q, fr, st => Q .normal fr st
  | .reg ops, Q, fr, st => (runOpsS ops fr st).sp A (regK Q)
  | .dreg ds kill, Q, fr, st => ((runDS [] ds fr st).bind (cutT kill)).sp A (regK Q)
  | .seq a b, Q, fr, st => spC A a (seqK (spC A b Q) Q) fr st
  | .cond c a b, Q, fr, st => match c.ev fr with
    | .b x => SIf x (spC A a Q fr st) (spC A b Q fr st)
    | _ => False
  | .blk id b, Q, fr, st => spC A b (blkK id Q) fr st
  | .loop b, Q, fr, st => SLoop (fun R => spC A b (seqK R Q)) fr st
  | .exit id, Q, fr, st => Q (.exit id) fr st
  | .ret, Q, fr, st => Q .ret fr st
  | .no, _, _, _ => False

theorem spC_wp {A : CallP} (hA : A.Mono) : ∀ (c : AC) (Q Q' : Ex → Fr → St → Prop) (fr : Fr) (st : St), spC A c Q fr st → (∀ e fr st, Q e fr st → Q' e fr st) → wpC A c Q' fr st
  | .skip, Q, Q', fr, st, h, hq => hq _ _ _ h
  | .reg ops, Q, Q', fr, st, h, hq => T.wp_mono hA (fun ⟨_, _⟩ h => hq _ _ _ h) (runOpsS_wp hA ops fr st _ (T.sp_wp hA _ _ h))
  | .dreg ds kill, Q, Q', fr, st, h, hq => by
    refine T.wp_mono hA (fun ⟨_, _⟩ h => hq _ _ _ h) (?_ : T.wp A _ (regK Q))
    simp only [spC] at h
    have h := T.sp_wp hA _ _ h
    rw [T.wp_bind] at h ⊢
    exact runDS_wp hA _ _ _ _ _ h
  | .seq a b, Q, Q', fr, st, h, hq => by
    refine spC_wp hA a _ _ fr st h ?_
    intro e fr st h
    cases e with
    | normal => exact spC_wp hA b _ _ fr st h hq
    | exit id => exact hq _ _ _ h
    | ret => exact hq _ _ _ h
  | .cond c a b, Q, Q', fr, st, h, hq => by
    simp only [spC] at h
    simp only [wpC]
    split at h
    · rename_i x hx
      rw [hx]
      exact ⟨fun hc => spC_wp hA a _ _ _ _ (h.t hc) hq, fun hc => spC_wp hA b _ _ _ _ (h.f hc) hq⟩
    · exact h.elim
  | .blk id b, Q, Q', fr, st, h, hq => by
    refine spC_wp hA b _ _ fr st h ?_
    intro e fr st h
    cases e with
    | normal => exact hq _ _ _ h
    | exit id' =>
      simp only [blkK] at h ⊢
      split
      · rename_i hi; rw [if_pos hi] at h; exact hq _ _ _ h
      · rename_i hi; rw [if_neg hi] at h; exact hq _ _ _ h
    | ret => exact hq _ _ _ h
  | .loop b, Q, Q', fr, st, h, hq => by
    intro R hR
    refine h.h R fun fr fr' st hl hx => hR fr fr' st hl ?_
    refine spC_wp hA b _ _ fr' st hx ?_
    intro e fr st h
    cases e with
    | normal => exact h
    | exit id => exact hq _ _ _ h
    | ret => exact hq _ _ _ h
  | .exit id, Q, Q', fr, st, h, hq => hq _ _ _ h
  | .ret, Q, Q', fr, st, h, hq => hq _ _ _ h
  | .no, _, _, _, _, h, _ => h.elim

theorem T.sp_mono {α : Type} {A : CallP} (hA : A.Mono) (t : T α) : ∀ {K K' : α → Prop}, (∀ a, K a → K' a) → t.sp A K → t.sp A K' := by
  induction t with
  | ret a => exact fun h hk => h _ hk
  | ite c t e iht ihe => exact fun h hk => ⟨fun hc => iht h (hk.t hc), fun hc => ihe h (hk.f hc)⟩
  | elem o k ih => exact fun h ⟨⟨x, hx, hk⟩⟩ => ⟨⟨x, hx, ih x h hk⟩⟩
  | byte o k ih => exact fun h ⟨⟨x, hx, hk⟩⟩ => ⟨⟨x, hx, ih x h hk⟩⟩
  | els o k ih => exact fun h ⟨⟨x, hx, hk⟩⟩ => ⟨⟨x, hx, ih x h hk⟩⟩
  | bys o k ih => exact fun h ⟨⟨x, hx, hk⟩⟩ => ⟨⟨x, hx, ih x h hk⟩⟩
  | obj o k ih => exact fun h ⟨⟨x, hx, hk⟩⟩ => ⟨⟨x, hx, ih x h hk⟩⟩
  | optc o n k ihn ih => exact fun h hk => ⟨fun hn => ihn h (hk.n hn), fun x hx => ih x h (hk.s x hx)⟩
  | chk c k ih => exact fun h hk => ⟨hk.c, ih h hk.k⟩
  | wrap kd n k ih => exact fun h hk => ⟨ih _ h hk.h⟩
  | any k ih => exact fun h hk => ⟨fun r => ih r h (hk.h r)⟩
  | same v u k ih => exact fun h hk => ⟨hk.e, ih h hk.k⟩
  | call f as hh k ih => exact fun h hk => ⟨hA _ _ _ _ _ (fun r h' hr => ih r h' h hr) hk.h⟩
  | fail => exact fun _ hk => hk
theorem spC_mono {A : CallP} (hA : A.Mono) : ∀ (c : AC) (Q Q' : Ex → Fr → St → Prop) (fr : Fr) (st : St), spC A c Q fr st → (∀ e fr st, Q e fr st → Q' e fr st) → spC A c Q' fr st
  | .skip, Q, Q', fr, st, h, hq => hq _ _ _ h
  | .reg ops, Q, Q', fr, st, h, hq => T.sp_mono hA _ (fun ⟨_, _⟩ h => hq _ _ _ h) h
  | .dreg ds kill, Q, Q', fr, st, h, hq => T.sp_mono hA _ (fun ⟨_, _⟩ h => hq _ _ _ h) h
  | .seq a b, Q, Q', fr, st, h, hq => by
    refine spC_mono hA a _ _ fr st h ?_
    intro e fr st h
    cases e with
    | normal => exact spC_mono hA b _ _ fr st h hq
    | exit id => exact hq _ _ _ h
    | ret => exact hq _ _ _ h
  | .cond c a b, Q, Q', fr, st, h, hq => by
    simp only [spC] at h ⊢
    split at h
    · exact ⟨fun hc => spC_mono hA a _ _ _ _ (h.t hc) hq, fun hc => spC_mono hA b _ _ _ _ (h.f hc) hq⟩
    · exact h.elim
  | .blk id b, Q, Q', fr, st, h, hq => by
    refine spC_mono hA b _ _ fr st h ?_
    intro e fr st h
    cases e with
    | normal => exact hq _ _ _ h
    | exit id' =>
      simp only [blkK] at h ⊢
      split
      · rename_i hi; rw [if_pos hi] at h; exact hq _ _ _ h
      · rename_i hi; rw [if_neg hi] at h; exact hq _ _ _ h
    | ret => exact hq _ _ _ h
  | .loop b, Q, Q', fr, st, h, hq => by
    refine ⟨fun R hR => h.h R fun fr fr' st hl hx => hR fr fr' st hl ?_⟩
    refine spC_mono hA b _ _ fr' st hx ?_
    intro e fr st h
    cases e with
    | normal => exact h
    | exit id => exact hq _ _ _ h
    | ret => exact hq _ _ _ h
  | .exit id, Q, Q', fr, st, h, hq => hq _ _ _ h
  | .ret, Q, Q', fr, st, h, hq => hq _ _ _ h
  | .no, _, _, _, _, h, _ => h.elim
/-- A loop, once. -/
theorem SLoop.un {P : Program} {b : AC} {Q : Ex → Fr → St → Prop} {fr : Fr} {st : St} (h : spC (ACall P) b (seqK (SLoop fun R => spC (ACall P) b (seqK R Q)) Q) fr st) : SLoop (fun R => spC (ACall P) b (seqK R Q)) fr st := by
  refine ⟨fun R hR => hR fr fr st (Fr.le_refl _) (spC_mono (ACall.mono P) b _ _ fr st h ?_)⟩
  intro e fr st hx
  cases e with
  | normal => exact hx.h R hR
  | exit id => exact hx
  | ret => exact hx

/-- (FN) A function's contract, from the symbolic run of its abstract text. -/
theorem fn_sp {P : Program} {f : Nat} {F : AFn} (hk : okFn P f F = true) {args : List V} (hn : args.length = F.nparams) {h : Heap} {K : V → Heap → Prop}
    (hw : spC (ACall P) F.body (retK F.results K) (paramFrame 0 args) (gst h)) : ACall P f args h K :=
  fn_ok hk hn (spC_wp (ACall.mono P) _ _ _ _ _ hw fun _ _ _ h => h)
end Go.Eng
