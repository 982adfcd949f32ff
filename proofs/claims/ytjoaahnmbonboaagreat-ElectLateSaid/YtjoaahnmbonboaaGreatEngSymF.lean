/-
Symbolic runs whose memory and values are spelt out behind each operation: for laws that run from the empty heap.
-/
import Derived.Test.YtjoaahnmbonboaaGreatEngSym
namespace Go.Eng
open Go

theorem SCall.app {A : CallP} {f : Nat} {as : List V} {h : Heap} {K : V → Heap → Prop} {X : Prop} (g : X → A f as h K) (x : X) : SCall A f as h K := ⟨g x⟩
def Key.fS {α : Type} (a : Key) (k : Key → α) : α :=
  match a with
  | .g n => k (.g n)
  | .l n => k (.l n)
def V.f1 {α : Type} (v : V) (k : V → α) : α :=
  match v with
  | .b x => k (.b x)
  | .i kd n => k (.i kd n)
  | .s x => k (.s x)
  | .nilp => k .nilp
  | .p a o => a.fS fun a => k (.p a o)
  | .pa a z ix o => a.fS fun a => k (.pa a z ix o)
  | .pc c o => k (.pc c o)
  | .nils => k .nils
  | .sl t z e => match t with
    | some a => a.fS fun a => k (.sl (some a) z e)
    | none => k (.sl none z e)
  | .ms a z u l => a.fS fun a => k (.ms a z u l)
  | .nilm => k .nilm
  | .m a => a.fS fun a => k (.m a)
  | .fn f a c => k (.fn f a c)
  | .nilf => k .nilf
  | .agg c => k (.agg c)
  | .tup c => k (.tup c)
  | .junk => k .junk
theorem Key.fS_eq {α : Type} (a : Key) (k : Key → α) : a.fS k = k a := by cases a <;> rfl
theorem V.f1_eq {α : Type} (v : V) (k : V → α) : v.f1 k = k v := by
  cases v <;> (try rfl)
  case sl t z e => cases t <;> simp only [V.f1, Key.fS_eq]
  all_goals simp only [V.f1, Key.fS_eq]
def cellsK {α : Type} : List V → (List V → α) → α
  | [], k => k []
  | v :: r, k => v.f1 fun v => cellsK r fun r => k (v :: r)
theorem cellsK_eq {α : Type} : ∀ (l : List V) (k : List V → α), cellsK l k = k l
  | [], _ => rfl
  | v :: r, k => by simp only [cellsK, V.f1_eq]; rw [cellsK_eq r]
def V.f2 {α : Type} (v : V) (k : V → α) : α :=
  match v with
  | .agg c => cellsK c fun c => k (.agg c)
  | .fn f a c => cellsK a fun a => cellsK c fun c => k (.fn f a c)
  | v => v.f1 k
theorem V.f2_eq {α : Type} (v : V) (k : V → α) : v.f2 k = k v := by
  cases v <;> simp only [V.f2, cellsK_eq, V.f1_eq]
def tupK {α : Type} : List V → (List V → α) → α
  | [], k => k []
  | v :: r, k => v.f2 fun v => tupK r fun r => k (v :: r)
theorem tupK_eq {α : Type} : ∀ (l : List V) (k : List V → α), tupK l k = k l
  | [], _ => rfl
  | v :: r, k => by simp only [tupK, V.f2_eq]; rw [tupK_eq r]
def V.f3 {α : Type} (v : V) (k : V → α) : α :=
  match v with
  | .tup c => tupK c fun c => k (.tup c)
  | v => v.f2 k
theorem V.f3_eq {α : Type} (v : V) (k : V → α) : v.f3 k = k v := by
  cases v <;> simp only [V.f3, tupK_eq, V.f2_eq]
def mapK {α : Type} : List (V × V) → (List (V × V) → α) → α
  | [], k => k []
  | q :: r, k => match q with
    | (a, v) => a.f1 fun a => v.f2 fun v => mapK r fun r => k ((a, v) :: r)
theorem mapK_eq {α : Type} : ∀ (l : List (V × V)) (k : List (V × V) → α), mapK l k = k l
  | [], _ => rfl
  | (a, v) :: r, k => by simp only [mapK, V.f1_eq, V.f2_eq]; rw [mapK_eq r]
def Obj.fS {α : Type} (o : Obj) (k : Obj → α) : α :=
  match o with
  | .cs c => cellsK c fun c => k (.cs c)
  | .arr z es => k (.arr z es)
  | .spare => k .spare
  | .mp kd es => mapK es fun es => k (.mp kd es)
theorem Obj.fS_eq {α : Type} (o : Obj) (k : Obj → α) : o.fS k = k o := by cases o <;> simp only [Obj.fS, cellsK_eq, mapK_eq]
def objsK {α : Type} : List (Nat × Obj) → (List (Nat × Obj) → α) → α
  | [], k => k []
  | q :: r, k => match q with
    | (n, o) => o.fS fun o => objsK r fun r => k ((n, o) :: r)
theorem objsK_eq {α : Type} : ∀ (l : List (Nat × Obj)) (k : List (Nat × Obj) → α), objsK l k = k l
  | [], _ => rfl
  | (n, o) :: r, k => by simp only [objsK, Obj.fS_eq]; rw [objsK_eq r]
def St.fS {α : Type} (st : St) (k : St → α) : α :=
  match st with
  | ⟨⟨x, a⟩, ⟨y, b⟩⟩ => objsK a fun a => objsK b fun b => k ⟨⟨x, a⟩, ⟨y, b⟩⟩
theorem St.fS_eq {α : Type} (st : St) (k : St → α) : st.fS k = k st := by
  obtain ⟨⟨x, a⟩, ⟨y, b⟩⟩ := st
  simp only [St.fS, objsK_eq]
def Fr.fS {α : Type} : Fr → (Fr → α) → α
  | [], k => k []
  | q :: r, k => match q with
    | (n, v) => v.f3 fun v => Fr.fS r fun r => k ((n, v) :: r)
theorem Fr.fS_eq {α : Type} : ∀ (l : Fr) (k : Fr → α), Fr.fS l k = k l
  | [], _ => rfl
  | (n, o) :: r, k => by simp only [Fr.fS, V.f3_eq]; rw [Fr.fS_eq r]

/-- May it turn memory? -/
def AOp.loud : AOp → Bool
  | .alloc _ _ => true
  | .box _ _ => true
  | .bsl _ _ _ _ _ => true
  | .store _ _ _ => true
  | .s2b _ _ => true
  | .mkmap _ _ => true
  | .mksl _ _ _ _ _ _ => true
  | .mupd _ _ _ _ => true
  | .call _ _ => true
  | .callv _ _ => true
  | .append _ _ _ _ _ => true
  | .copy _ _ _ => true
  | .delete _ _ _ => true
  | .clear _ _ _ => true
  | _ => false
def outFs {α : Type} (o : AOp) (x : R) (k : V → St → α) : α :=
  match x with
  | (v, st) => match o.loud with
    | true => st.fS fun st => v.f3 fun v => k v st
    | false => v.f3 fun v => k v st
theorem outFs_eq {α : Type} (o : AOp) (v : V) (st : St) (k : V → St → α) : outFs o (v, st) k = k v st := by
  unfold outFs
  cases o.loud <;> simp only [V.f3_eq, St.fS_eq]
def stepFs (o : AOp) (fr : Fr) (st : St) : T R :=
  match o with
  | .mnmx max xs => stepS (.mnmx max xs) fr st
  | .append m sz bytes s x => stepS (.append m sz bytes s x) fr st
  | .slsl sz x lo hi mx => stepS (.slsl sz x lo hi mx) fr st
  | .copy sz d x => stepS (.copy sz d x) fr st
  | .b2s x => stepS (.b2s x) fr st
  | o => step o fr st
theorem stepF_wp {A : CallP} {o : AOp} {fr : Fr} {st : St} {K : R → Prop} (h : (stepFs o fr st).wp A K) : (step o fr st).wp A K := by
  cases o <;> first | exact h | exact stepS_wp h
noncomputable def T.sq {α : Type} (A : CallP) (t : T α) : (α → Prop) → Prop :=
  T.rec (motive := fun _ => (α → Prop) → Prop) (fun a K => K a) (fun c _ _ it ie K => SIf c (it K) (ie K)) (fun o _ ih K => SEx o fun x => ih x K) (fun o _ ih K => SEx o fun x => ih x K) (fun o _ ih K => SEx o fun x => ih x K)
    (fun o _ ih K => SEx o fun x => ih x K) (fun o _ ih K => SEx o fun x => ih x K) (fun o _ _ ihn ih K => SOpt o (ihn K) fun x => ih x K) (fun c _ ih K => SChk c (ih K)) (fun kd n _ ih K => SWrap kd n fun x => ih x K) (fun _ ih K => SAny fun r => ih r K)
    (fun v u _ ih K => SSame v u (ih K)) (fun f as h _ ih K => SCall A f as h fun r h' => ih r h' K) (fun _ => False) t
theorem T.sq_eq {α : Type} (A : CallP) (t : T α) : ∀ K, t.sq A K = t.sp A K := by
  induction t with
  | ret a => exact fun K => rfl
  | ite c t e iht ihe => intro K; show SIf c (t.sq A K) (e.sq A K) = _; rw [iht, ihe]; rfl
  | elem o k ih => intro K; show (SEx o fun x => (k x).sq A K) = _; simp only [ih]; rfl
  | byte o k ih => intro K; show (SEx o fun x => (k x).sq A K) = _; simp only [ih]; rfl
  | els o k ih => intro K; show (SEx o fun x => (k x).sq A K) = _; simp only [ih]; rfl
  | bys o k ih => intro K; show (SEx o fun x => (k x).sq A K) = _; simp only [ih]; rfl
  | obj o k ih => intro K; show (SEx o fun x => (k x).sq A K) = _; simp only [ih]; rfl
  | optc o n k ihn ih => intro K; show (SOpt o (n.sq A K) fun x => (k x).sq A K) = _; simp only [ihn, ih]; rfl
  | chk c k ih => intro K; show SChk c (k.sq A K) = _; rw [ih]; rfl
  | wrap kd n k ih => intro K; show (SWrap kd n fun x => (k x).sq A K) = _; simp only [ih]; rfl
  | any k ih => intro K; show (SAny fun x => (k x).sq A K) = _; simp only [ih]; rfl
  | same v u k ih => intro K; show SSame v u (k.sq A K) = _; rw [ih]; rfl
  | call f as h k ih => intro K; show (SCall A f as h fun r h' => (k r h').sq A K) = _; simp only [ih]; rfl
  | fail => exact fun K => rfl
noncomputable def T.bq {α β : Type} (t : T α) (f : α → T β) : T β :=
  T.rec (motive := fun _ => T β) (fun a => f a) (fun c _ _ it ie => .ite c it ie) (fun o _ ih => .elem o ih) (fun o _ ih => .byte o ih) (fun o _ ih => .els o ih) (fun o _ ih => .bys o ih) (fun o _ ih => .obj o ih) (fun o _ _ ihn ih => .optc o ihn ih)
    (fun c _ ih => .chk c ih) (fun kd n _ ih => .wrap kd n ih) (fun _ ih => .any ih) (fun v u _ ih => .same v u ih) (fun g as h _ ih => .call g as h ih) .fail t
theorem T.bq_eq {α β : Type} (t : T α) (f : α → T β) : t.bq f = t.bind f := by
  induction t with
  | ret a => rfl
  | ite c t e iht ihe => show T.ite c (t.bq f) (e.bq f) = _; rw [iht, ihe]; rfl
  | elem o k ih => show (T.elem o fun x => (k x).bq f) = _; simp only [ih]; rfl
  | byte o k ih => show (T.byte o fun x => (k x).bq f) = _; simp only [ih]; rfl
  | els o k ih => show (T.els o fun x => (k x).bq f) = _; simp only [ih]; rfl
  | bys o k ih => show (T.bys o fun x => (k x).bq f) = _; simp only [ih]; rfl
  | obj o k ih => show (T.obj o fun x => (k x).bq f) = _; simp only [ih]; rfl
  | optc o n k ihn ih => show (T.optc o (n.bq f) fun x => (k x).bq f) = _; simp only [ihn, ih]; rfl
  | chk c k ih => show T.chk c (k.bq f) = _; rw [ih]; rfl
  | wrap kd n k ih => show (T.wrap kd n fun x => (k x).bq f) = _; simp only [ih]; rfl
  | any k ih => show (T.any fun x => (k x).bq f) = _; simp only [ih]; rfl
  | same v u k ih => show T.same v u (k.bq f) = _; rw [ih]; rfl
  | call g as h k ih => show (T.call g as h fun r h' => (k r h').bq f) = _; simp only [ih]; rfl
  | fail => rfl

abbrev RunF := Fr → St → T (Fr × St)
/-- One operation in the text's order; 'ih': the rest. -/
noncomputable def opF (o : AOper) (ih : RunF) : RunF := fun fr st =>
  match o.guard with
  | none => (stepFs o.op fr st).bq fun x => outFs o.op x fun v st => fr.after o.dst v o.kill fun fr => ih fr st
  | some (t, want) => match fr.get t with
    | .b x => match want with
      | true => .ite x
        (fr.cut [t] fun r => (stepFs o.op ((t, .b true) :: r) st).bq fun x => outFs o.op x fun v st => Fr.after ((t, .b true) :: r) o.dst v o.kill fun fr => ih fr st)
        (fr.cut [t] fun r => Fr.after ((t, .b false) :: r) o.dst (.tup []) o.kill fun fr => ih fr st)
      | false => .ite x
        (fr.cut [t] fun r => Fr.after ((t, .b true) :: r) o.dst (.tup []) o.kill fun fr => ih fr st)
        (fr.cut [t] fun r => (stepFs o.op ((t, .b false) :: r) st).bq fun x => outFs o.op x fun v st => Fr.after ((t, .b false) :: r) o.dst v o.kill fun fr => ih fr st)
    | .tup _ => fr.after o.dst (.tup []) o.kill fun fr => ih fr st
    | _ => .fail
noncomputable def runOpsF (l : List AOper) : RunF :=
  List.rec (motive := fun _ => RunF) (fun fr st => .ret (fr, st)) (fun o _ ih => opF o ih) l
theorem runOpsF_cons (o : AOper) (l : List AOper) : runOpsF (o :: l) = opF o (runOpsF l) := rfl
theorem runOpsF_wp {A : CallP} (hA : A.Mono) : ∀ (ops : List AOper) (fr : Fr) (st : St) (K : Fr × St → Prop), (runOpsF ops fr st).wp A K → (runOps ops fr st).wp A K
  | [], fr, st, K, h => h
  | o :: rest, fr, st, K, h => by
    have one : ∀ {fr0 : Fr}, ((stepFs o.op fr0 st).bq fun x => outFs o.op x fun v st => fr0.after o.dst v o.kill fun fr => runOpsF rest fr st).wp A K → ((step o.op fr0 st).bind fun x => match x with
        | (v, st) => fr0.after o.dst v o.kill fun fr => runOps rest fr st).wp A K := by
      intro fr0 h
      rw [T.bq_eq, T.wp_bind] at h
      rw [T.wp_bind]
      refine stepF_wp ?_
      revert h
      refine T.wp_mono hA ?_
      rintro ⟨v, st⟩ h
      dsimp only at h ⊢
      rw [outFs_eq, Fr.after_eq] at h
      rw [Fr.after_eq]
      exact runOpsF_wp hA rest _ _ K h
    have two : ∀ {fr0 : Fr}, (fr0.after o.dst (.tup []) o.kill fun fr => runOpsF rest fr st).wp A K → (fr0.after o.dst (.tup []) o.kill fun fr => runOps rest fr st).wp A K := by
      intro fr0 h
      rw [Fr.after_eq] at h ⊢
      exact runOpsF_wp hA rest _ _ K h
    rw [runOpsF_cons] at h
    obtain ⟨dst, op, g, kill⟩ := o
    cases g with
    | none => exact one h
    | some q =>
      obtain ⟨t, want⟩ := q
      simp only [opF] at h
      simp only [runOps]
      generalize fr.get t = v at h ⊢
      cases v <;> (try exact h)
      case b x =>
        cases want
        · refine ⟨fun hc => ?_, fun hc => ?_⟩
          · have h := h.1 hc
            rw [Fr.cut_eq] at h ⊢
            exact two h
          · have h := h.2 hc
            rw [Fr.cut_eq] at h ⊢
            exact one h
        · refine ⟨fun hc => ?_, fun hc => ?_⟩
          · have h := h.1 hc
            rw [Fr.cut_eq] at h ⊢
            exact one h
          · have h := h.2 hc
            rw [Fr.cut_eq] at h ⊢
            exact two h
      case tup vs => exact two h
abbrev RunD := List DOper → Fr → St → T (Fr × St)
noncomputable def dopF (d : DOper) (ih : RunD) : RunD := fun done fr st => gated d.o.guard fr
  (fun fr => (stepFs d.o.op fr st).bq fun x => outFs d.o.op x fun v st => fr.after d.o.dst v [] fun fr => recheck d.re done fr st (ih (d :: done) fr st))
  (fun fr => fr.after d.o.dst (.tup []) [] fun fr => ih (d :: done) fr st)
noncomputable def runDF (l : List DOper) : RunD :=
  List.rec (motive := fun _ => RunD) (fun _ fr st => .ret (fr, st)) (fun d _ ih => dopF d ih) l
theorem runDF_cons (o : DOper) (l : List DOper) : runDF (o :: l) = dopF o (runDF l) := rfl
theorem runDF_wp {A : CallP} (hA : A.Mono) : ∀ (ds done : List DOper) (fr : Fr) (st : St) (K : Fr × St → Prop), (runDF ds done fr st).wp A K → (runD done ds fr st).wp A K
  | [], done, fr, st, K, h => h
  | d :: rest, done, fr, st, K, h => by
    rw [runDF_cons] at h
    simp only [dopF] at h
    simp only [runD]
    refine gated_mono (fun fr h => ?_) (fun fr h => ?_) h
    · rw [T.bq_eq, T.wp_bind] at h
      rw [T.wp_bind]
      refine stepF_wp ?_
      refine T.wp_mono hA ?_ h
      rintro ⟨v, st⟩ h
      dsimp only at h ⊢
      rw [outFs_eq, Fr.after_eq] at h
      rw [Fr.after_eq]
      exact recheck_mono hA (fun h => runDF_wp hA rest _ _ _ K h) h
    · rw [Fr.after_eq] at h ⊢
      exact runDF_wp hA rest _ _ _ K h

abbrev RunC' := (Ex → Fr → St → Prop) → Fr → St → Prop
structure SLoopB (A : CallP) (b : AC) (ib : RunC') (Q : Ex → Fr → St → Prop) (fr : Fr) (st : St) : Prop where
  h : SLoop (fun R => ib (seqK R Q)) fr st
noncomputable def spF (A : CallP) (c : AC) : RunC' :=
  AC.rec (motive := fun _ => RunC') (fun Q fr st => Q .normal fr st) (fun ops Q fr st => (runOpsF ops fr st).sq A (regK Q)) (fun ds kill Q fr st => ((runDF ds [] fr st).bq (cutT kill)).sq A (regK Q))
    (fun _ _ ia ib Q fr st => ia (seqK (ib Q) Q) fr st)
    (fun c _ _ ia ib Q fr st => match c.ev fr with
      | .b x => SIf x (ia Q fr st) (ib Q fr st)
      | _ => False)
    (fun id _ ib Q fr st => ib (blkK id Q) fr st) (fun b ib Q fr st => SLoopB A b ib Q fr st) (fun id Q fr st => Q (.exit id) fr st) (fun Q fr st => Q .ret fr st) (fun _ _ _ => False) c
theorem spF_cond (A : CallP) (c : Opd) (a b : AC) (Q : Ex → Fr → St → Prop) (fr : Fr) (st : St) : spF A (.cond c a b) Q fr st = match c.ev fr with
      | .b x => SIf x (spF A a Q fr st) (spF A b Q fr st)
      | _ => False := rfl
theorem spF_mono {A : CallP} (hA : A.Mono) : ∀ (c : AC) (Q Q' : Ex → Fr → St → Prop) (fr : Fr) (st : St), spF A c Q fr st → (∀ e fr st, Q e fr st → Q' e fr st) → spF A c Q' fr st
  | .skip, Q, Q', fr, st, h, hq => hq _ _ _ h
  | .reg ops, Q, Q', fr, st, h, hq => by
    have h : (runOpsF ops fr st).sq A (regK Q) := h
    show (runOpsF ops fr st).sq A (regK Q')
    rw [T.sq_eq] at h ⊢
    exact T.sp_mono hA _ (fun ⟨_, _⟩ h => hq _ _ _ h) h
  | .dreg ds kill, Q, Q', fr, st, h, hq => by
    have h : ((runDF ds [] fr st).bq (cutT kill)).sq A (regK Q) := h
    show ((runDF ds [] fr st).bq (cutT kill)).sq A (regK Q')
    rw [T.sq_eq] at h ⊢
    exact T.sp_mono hA _ (fun ⟨_, _⟩ h => hq _ _ _ h) h
  | .seq a b, Q, Q', fr, st, h, hq => by
    refine spF_mono hA a _ _ fr st h ?_
    intro e fr st h
    cases e with
    | normal => exact spF_mono hA b _ _ fr st h hq
    | exit id => exact hq _ _ _ h
    | ret => exact hq _ _ _ h
  | .cond c a b, Q, Q', fr, st, h, hq => by
    rw [spF_cond] at h ⊢
    split at h
    · exact ⟨fun hc => spF_mono hA a _ _ _ _ (h.t hc) hq, fun hc => spF_mono hA b _ _ _ _ (h.f hc) hq⟩
    · exact h.elim
  | .blk id b, Q, Q', fr, st, h, hq => by
    refine spF_mono hA b _ _ fr st h ?_
    intro e fr st h
    cases e with
    | normal => exact hq _ _ _ h
    | exit id' =>
      simp only [blkK] at h ⊢
      split
      · rename_i hi; rw [if_pos hi] at h; exact hq _ _ _ h
      · rename_i hi; rw [if_neg hi] at h; exact hq _ _ _ h
    | ret => exact hq _ _ _ h
  | .loop b, Q, Q', fr, st, h, hq => by
    refine SLoopB.mk ⟨fun R hR => h.h.h R fun fr fr' st hl hx => hR fr fr' st hl ?_⟩
    refine spF_mono hA b _ _ fr' st hx ?_
    intro e fr st h
    cases e with
    | normal => exact h
    | exit id => exact hq _ _ _ h
    | ret => exact hq _ _ _ h
  | .exit id, Q, Q', fr, st, h, hq => hq _ _ _ h
  | .ret, Q, Q', fr, st, h, hq => hq _ _ _ h
  | .no, _, _, _, _, h, _ => h.elim
theorem spF_wp {A : CallP} (hA : A.Mono) : ∀ (c : AC) (Q Q' : Ex → Fr → St → Prop) (fr : Fr) (st : St), spF A c Q fr st → (∀ e fr st, Q e fr st → Q' e fr st) → wpC A c Q' fr st
  | .skip, Q, Q', fr, st, h, hq => hq _ _ _ h
  | .reg ops, Q, Q', fr, st, h, hq => by
    have h : (runOpsF ops fr st).sq A (regK Q) := h
    rw [T.sq_eq] at h
    exact T.wp_mono hA (fun ⟨_, _⟩ h => hq _ _ _ h) (runOpsF_wp hA ops fr st _ (T.sp_wp hA _ _ h))
  | .dreg ds kill, Q, Q', fr, st, h, hq => by
    refine T.wp_mono hA (fun ⟨_, _⟩ h => hq _ _ _ h) (?_ : T.wp A _ (regK Q))
    have h : ((runDF ds [] fr st).bq (cutT kill)).sq A (regK Q) := h
    rw [T.sq_eq, T.bq_eq] at h
    have h := T.sp_wp hA _ _ h
    rw [T.wp_bind] at h ⊢
    exact runDF_wp hA _ _ _ _ _ h
  | .seq a b, Q, Q', fr, st, h, hq => by
    refine spF_wp hA a _ _ fr st h ?_
    intro e fr st h
    cases e with
    | normal => exact spF_wp hA b _ _ fr st h hq
    | exit id => exact hq _ _ _ h
    | ret => exact hq _ _ _ h
  | .cond c a b, Q, Q', fr, st, h, hq => by
    rw [spF_cond] at h
    simp only [wpC]
    split at h
    · rename_i x hx
      rw [hx]
      exact ⟨fun hc => spF_wp hA a _ _ _ _ (h.t hc) hq, fun hc => spF_wp hA b _ _ _ _ (h.f hc) hq⟩
    · exact h.elim
  | .blk id b, Q, Q', fr, st, h, hq => by
    refine spF_wp hA b _ _ fr st h ?_
    intro e fr st h
    cases e with
    | normal => exact hq _ _ _ h
    | exit id' =>
      simp only [blkK] at h ⊢
      split
      · rename_i hi; rw [if_pos hi] at h; exact hq _ _ _ h
      · rename_i hi; rw [if_neg hi] at h; exact hq _ _ _ h
    | ret => exact hq _ _ _ h
  | .loop b, Q, Q', fr, st, h, hq => by
    intro R hR
    refine h.h.h R fun fr fr' st hl hx => hR fr fr' st hl ?_
    refine spF_wp hA b _ _ fr' st hx ?_
    intro e fr st h
    cases e with
    | normal => exact h
    | exit id => exact hq _ _ _ h
    | ret => exact hq _ _ _ h
  | .exit id, Q, Q', fr, st, h, hq => hq _ _ _ h
  | .ret, Q, Q', fr, st, h, hq => hq _ _ _ h
  | .no, _, _, _, _, h, _ => h.elim
/-- A loop, once. -/
theorem SLoopB.un {P : Program} {b : AC} {ib : RunC'} {Q : Ex → Fr → St → Prop} {fr : Fr} {st : St} (e : spF (ACall P) b = ib) (h : ib (seqK (SLoopB (ACall P) b ib Q) Q) fr st) : SLoopB (ACall P) b ib Q fr st := by
  subst e
  refine ⟨⟨fun R hR => hR fr fr st (Fr.le_refl _) (spF_mono (ACall.mono P) b _ _ fr st h ?_)⟩⟩
  intro e fr st hx
  cases e with
  | normal => exact hx.h.h R hR
  | exit id => exact hx
  | ret => exact hx
/-- (FN) A function's contract, from a run that is spelt out. -/
theorem fn_sf {P : Program} {f : Nat} {F : AFn} (hk : okFn P f F = true) {args : List V} (hn : args.length = F.nparams) {h : Heap} {K : V → Heap → Prop}
    (hw : (gst h).fS fun st => (paramFrame 0 args).fS fun fr => spF (ACall P) F.body (retK F.results K) fr st) : ACall P f args h K := by
  rw [St.fS_eq, Fr.fS_eq] at hw
  exact fn_ok hk hn (spF_wp (ACall.mono P) _ _ _ _ _ hw fun _ _ _ h => h)
end Go.Eng
