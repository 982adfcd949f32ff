/-
Symbolic runs in any heap: values are spelt out behind each operation, objects when they are looked up.
-/
import Derived.Test.YtcckglahpbmakaaGreatEngD
set_option linter.unusedVariables false
set_option linter.unusedSimpArgs false
namespace Go.Eng
open Go
def outVs {α : Type} (x : R) (k : V → St → α) : α :=
  match x with
  | (v, st) => v.f3 fun v => k v st
theorem outVs_eq {α : Type} (v : V) (st : St) (k : V → St → α) : outVs (v, st) k = k v st := by
  simp only [outVs, V.f3_eq]
abbrev stepVs (o : AOp) (fr : Fr) (st : St) : T R := stepS o fr st
theorem stepV_wp {A : CallP} {o : AOp} {fr : Fr} {st : St} {K : R → Prop} (h : (stepVs o fr st).wp A K) : (step o fr st).wp A K := stepS_wp h
noncomputable def T.sv {α : Type} (A : CallP) (t : T α) : (α → Prop) → Prop :=
  T.rec (motive := fun _ => (α → Prop) → Prop) (fun a K => K a) (fun c _ _ it ie K => SIf c (it K) (ie K)) (fun o _ ih K => SEx o fun x => ih x K) (fun o _ ih K => SEx o fun x => ih x K) (fun o _ ih K => SEx o fun x => ih x K)
    (fun o _ ih K => SEx o fun x => ih x K) (fun o _ ih K => SEx o fun x => Obj.fS x fun x => ih x K) (fun o _ _ ihn ih K => SOpt o (ihn K) fun x => ih x K) (fun c _ ih K => SChk c (ih K)) (fun kd n _ ih K => SWrap kd n fun x => ih x K) (fun _ ih K => SAny fun r => ih r K)
    (fun v u _ ih K => SSame v u (ih K)) (fun f as h _ ih K => SCall A f as h fun r h' => ih r h' K) (fun _ => False) t
theorem T.sv_eq {α : Type} (A : CallP) (t : T α) : ∀ K, t.sv A K = t.sp A K := by
  induction t with
  | ret a => exact fun K => rfl
  | ite c t e iht ihe => intro K; show SIf c (t.sv A K) (e.sv A K) = _; rw [iht, ihe]; rfl
  | elem o k ih => intro K; show (SEx o fun x => (k x).sv A K) = _; simp only [ih]; rfl
  | byte o k ih => intro K; show (SEx o fun x => (k x).sv A K) = _; simp only [ih]; rfl
  | els o k ih => intro K; show (SEx o fun x => (k x).sv A K) = _; simp only [ih]; rfl
  | bys o k ih => intro K; show (SEx o fun x => (k x).sv A K) = _; simp only [ih]; rfl
  | obj o k ih => intro K; show (SEx o fun x => Obj.fS x fun x => (k x).sv A K) = _; simp only [Obj.fS_eq, ih]; rfl
  | optc o n k ihn ih => intro K; show (SOpt o (n.sv A K) fun x => (k x).sv A K) = _; simp only [ihn, ih]; rfl
  | chk c k ih => intro K; show SChk c (k.sv A K) = _; rw [ih]; rfl
  | wrap kd n k ih => intro K; show (SWrap kd n fun x => (k x).sv A K) = _; simp only [ih]; rfl
  | any k ih => intro K; show (SAny fun x => (k x).sv A K) = _; simp only [ih]; rfl
  | same v u k ih => intro K; show SSame v u (k.sv A K) = _; rw [ih]; rfl
  | call f as h k ih => intro K; show (SCall A f as h fun r h' => (k r h').sv A K) = _; simp only [ih]; rfl
  | fail => exact fun K => rfl
abbrev RunV := Fr → St → T (Fr × St)
noncomputable def opV (o : AOper) (ih : RunV) : RunV := fun fr st =>
  match o.guard with
  | none => (stepVs o.op fr st).bq fun x => outVs x fun v st => fr.after o.dst v o.kill fun fr => ih fr st
  | some (t, want) => match fr.get t with
    | .b x => match want with
      | true => .ite x
        (fr.cut [t] fun r => (stepVs o.op ((t, .b true) :: r) st).bq fun x => outVs x fun v st => Fr.after ((t, .b true) :: r) o.dst v o.kill fun fr => ih fr st)
        (fr.cut [t] fun r => Fr.after ((t, .b false) :: r) o.dst (.tup []) o.kill fun fr => ih fr st)
      | false => .ite x
        (fr.cut [t] fun r => Fr.after ((t, .b true) :: r) o.dst (.tup []) o.kill fun fr => ih fr st)
        (fr.cut [t] fun r => (stepVs o.op ((t, .b false) :: r) st).bq fun x => outVs x fun v st => Fr.after ((t, .b false) :: r) o.dst v o.kill fun fr => ih fr st)
    | .tup _ => fr.after o.dst (.tup []) o.kill fun fr => ih fr st
    | _ => .fail
noncomputable def runOpsV (l : List AOper) : RunV :=
  List.rec (motive := fun _ => RunV) (fun fr st => .ret (fr, st)) (fun o _ ih => opV o ih) l
theorem runOpsV_cons (o : AOper) (l : List AOper) : runOpsV (o :: l) = opV o (runOpsV l) := rfl
theorem runOpsV_wp {A : CallP} (hA : A.Mono) : ∀ (ops : List AOper) (fr : Fr) (st : St) (K : Fr × St → Prop), (runOpsV ops fr st).wp A K → (runOps ops fr st).wp A K
  | [], fr, st, K, h => h
  | o :: rest, fr, st, K, h => by
    have one : ∀ {fr0 : Fr}, ((stepVs o.op fr0 st).bq fun x => outVs x fun v st => fr0.after o.dst v o.kill fun fr => runOpsV rest fr st).wp A K → ((step o.op fr0 st).bind fun x => match x with
        | (v, st) => fr0.after o.dst v o.kill fun fr => runOps rest fr st).wp A K := by
      intro fr0 h
      rw [T.bq_eq, T.wp_bind] at h
      rw [T.wp_bind]
      refine stepV_wp ?_
      revert h
      refine T.wp_mono hA ?_
      rintro ⟨v, st⟩ h
      dsimp only at h ⊢
      rw [outVs_eq, Fr.after_eq] at h
      rw [Fr.after_eq]
      exact runOpsV_wp hA rest _ _ K h
    have two : ∀ {fr0 : Fr}, (fr0.after o.dst (.tup []) o.kill fun fr => runOpsV rest fr st).wp A K → (fr0.after o.dst (.tup []) o.kill fun fr => runOps rest fr st).wp A K := by
      intro fr0 h
      rw [Fr.after_eq] at h ⊢
      exact runOpsV_wp hA rest _ _ K h
    rw [runOpsV_cons] at h
    obtain ⟨dst, op, g, kill⟩ := o
    cases g with
    | none => exact one h
    | some q =>
      obtain ⟨t, want⟩ := q
      simp only [opV] at h
      simp only [runOps]
      generalize fr.get t = v at h ⊢
      cases v <;> (try exact h)
      case b x =>
        cases want
        · refine ⟨fun hc => ?_, fun hc => ?_⟩
          · have h := h.1 hc
            rw [Fr.cut_eq] at h ⊢
            exact two h
          · have h := h.2 hc
            rw [Fr.cut_eq] at h ⊢
            exact one h
        · refine ⟨fun hc => ?_, fun hc => ?_⟩
          · have h := h.1 hc
            rw [Fr.cut_eq] at h ⊢
            exact one h
          · have h := h.2 hc
            rw [Fr.cut_eq] at h ⊢
            exact two h
      case tup vs => exact two h
abbrev RunDV := List DOper → Fr → St → T (Fr × St)
noncomputable def dopV (d : DOper) (ih : RunDV) : RunDV := fun done fr st => gated d.o.guard fr
  (fun fr => (stepVs d.o.op fr st).bq fun x => outVs x fun v st => fr.after d.o.dst v [] fun fr => recheck d.re done fr st (ih (d :: done) fr st))
  (fun fr => fr.after d.o.dst (.tup []) [] fun fr => ih (d :: done) fr st)
noncomputable def runDV (l : List DOper) : RunDV :=
  List.rec (motive := fun _ => RunDV) (fun _ fr st => .ret (fr, st)) (fun d _ ih => dopV d ih) l
theorem runDV_cons (o : DOper) (l : List DOper) : runDV (o :: l) = dopV o (runDV l) := rfl
theorem runDV_wp {A : CallP} (hA : A.Mono) : ∀ (ds done : List DOper) (fr : Fr) (st : St) (K : Fr × St → Prop), (runDV ds done fr st).wp A K → (runD done ds fr st).wp A K
  | [], done, fr, st, K, h => h
  | d :: rest, done, fr, st, K, h => by
    rw [runDV_cons] at h
    simp only [dopV] at h
    simp only [runD]
    refine gated_mono (fun fr h => ?_) (fun fr h => ?_) h
    · rw [T.bq_eq, T.wp_bind] at h
      rw [T.wp_bind]
      refine stepV_wp ?_
      refine T.wp_mono hA ?_ h
      rintro ⟨v, st⟩ h
      dsimp only at h ⊢
      rw [outVs_eq, Fr.after_eq] at h
      rw [Fr.after_eq]
      exact recheck_mono hA (fun h => runDV_wp hA rest _ _ _ K h) h
    · rw [Fr.after_eq] at h ⊢
      exact runDV_wp hA rest _ _ _ K h

abbrev RunCV := (Ex → Fr → St → Prop) → Fr → St → Prop
structure SLoopV (A : CallP) (b : AC) (ib : RunCV) (Q : Ex → Fr → St → Prop) (fr : Fr) (st : St) : Prop where
  h : SLoop (fun R => ib (seqK R Q)) fr st
noncomputable def spV (A : CallP) (c : AC) : RunCV :=
  AC.rec (motive := fun _ => RunCV) (fun Q fr st => Q .normal fr st) (fun ops Q fr st => (runOpsV ops fr st).sv A (regK Q)) (fun ds kill Q fr st => ((runDV ds [] fr st).bq (cutT kill)).sv A (regK Q))
    (fun _ _ ia ib Q fr st => ia (seqK (ib Q) Q) fr st)
    (fun c _ _ ia ib Q fr st => match c.ev fr with
      | .b x => SIf x (ia Q fr st) (ib Q fr st)
      | _ => False)
    (fun id _ ib Q fr st => ib (blkK id Q) fr st) (fun b ib Q fr st => SLoopV A b ib Q fr st) (fun id Q fr st => Q (.exit id) fr st) (fun Q fr st => Q .ret fr st) (fun _ _ _ => False) c
theorem spV_cond (A : CallP) (c : Opd) (a b : AC) (Q : Ex → Fr → St → Prop) (fr : Fr) (st : St) : spV A (.cond c a b) Q fr st = match c.ev fr with
      | .b x => SIf x (spV A a Q fr st) (spV A b Q fr st)
      | _ => False := rfl
theorem spV_mono {A : CallP} (hA : A.Mono) : ∀ (c : AC) (Q Q' : Ex → Fr → St → Prop) (fr : Fr) (st : St), spV A c Q fr st → (∀ e fr st, Q e fr st → Q' e fr st) → spV A c Q' fr st
  | .skip, Q, Q', fr, st, h, hq => hq _ _ _ h
  | .reg ops, Q, Q', fr, st, h, hq => by
    have h : (runOpsV ops fr st).sv A (regK Q) := h
    show (runOpsV ops fr st).sv A (regK Q')
    rw [T.sv_eq] at h ⊢
    exact T.sp_mono hA _ (fun ⟨_, _⟩ h => hq _ _ _ h) h
  | .dreg ds kill, Q, Q', fr, st, h, hq => by
    have h : ((runDV ds [] fr st).bq (cutT kill)).sv A (regK Q) := h
    show ((runDV ds [] fr st).bq (cutT kill)).sv A (regK Q')
    rw [T.sv_eq] at h ⊢
    exact T.sp_mono hA _ (fun ⟨_, _⟩ h => hq _ _ _ h) h
  | .seq a b, Q, Q', fr, st, h, hq => by
    refine spV_mono hA a _ _ fr st h ?_
    intro e fr st h
    cases e with
    | normal => exact spV_mono hA b _ _ fr st h hq
    | exit id => exact hq _ _ _ h
    | ret => exact hq _ _ _ h
  | .cond c a b, Q, Q', fr, st, h, hq => by
    rw [spV_cond] at h ⊢
    split at h
    · exact ⟨fun hc => spV_mono hA a _ _ _ _ (h.t hc) hq, fun hc => spV_mono hA b _ _ _ _ (h.f hc) hq⟩
    · exact h.elim
  | .blk id b, Q, Q', fr, st, h, hq => by
    refine spV_mono hA b _ _ fr st h ?_
    intro e fr st h
    cases e with
    | normal => exact hq _ _ _ h
    | exit id' =>
      simp only [blkK] at h ⊢
      split
      · rename_i hi; rw [if_pos hi] at h; exact hq _ _ _ h
      · rename_i hi; rw [if_neg hi] at h; exact hq _ _ _ h
    | ret => exact hq _ _ _ h
  | .loop b, Q, Q', fr, st, h, hq => by
    refine SLoopV.mk ⟨fun R hR => h.h.h R fun fr fr' st hl hx => hR fr fr' st hl ?_⟩
    refine spV_mono hA b _ _ fr' st hx ?_
    intro e fr st h
    cases e with
    | normal => exact h
    | exit id => exact hq _ _ _ h
    | ret => exact hq _ _ _ h
  | .exit id, Q, Q', fr, st, h, hq => hq _ _ _ h
  | .ret, Q, Q', fr, st, h, hq => hq _ _ _ h
  | .no, _, _, _, _, h, _ => h.elim
theorem spV_wp {A : CallP} (hA : A.Mono) : ∀ (c : AC) (Q Q' : Ex → Fr → St → Prop) (fr : Fr) (st : St), spV A c Q fr st → (∀ e fr st, Q e fr st → Q' e fr st) → wpC A c Q' fr st
  | .skip, Q, Q', fr, st, h, hq => hq _ _ _ h
  | .reg ops, Q, Q', fr, st, h, hq => by
    have h : (runOpsV ops fr st).sv A (regK Q) := h
    rw [T.sv_eq] at h
    exact T.wp_mono hA (fun ⟨_, _⟩ h => hq _ _ _ h) (runOpsV_wp hA ops fr st _ (T.sp_wp hA _ _ h))
  | .dreg ds kill, Q, Q', fr, st, h, hq => by
    refine T.wp_mono hA (fun ⟨_, _⟩ h => hq _ _ _ h) (?_ : T.wp A _ (regK Q))
    have h : ((runDV ds [] fr st).bq (cutT kill)).sv A (regK Q) := h
    rw [T.sv_eq, T.bq_eq] at h
    have h := T.sp_wp hA _ _ h
    rw [T.wp_bind] at h ⊢
    exact runDV_wp hA _ _ _ _ _ h
  | .seq a b, Q, Q', fr, st, h, hq => by
    refine spV_wp hA a _ _ fr st h ?_
    intro e fr st h
    cases e with
    | normal => exact spV_wp hA b _ _ fr st h hq
    | exit id => exact hq _ _ _ h
    | ret => exact hq _ _ _ h
  | .cond c a b, Q, Q', fr, st, h, hq => by
    rw [spV_cond] at h
    simp only [wpC]
    split at h
    · rename_i x hx
      rw [hx]
      exact ⟨fun hc => spV_wp hA a _ _ _ _ (h.t hc) hq, fun hc => spV_wp hA b _ _ _ _ (h.f hc) hq⟩
    · exact h.elim
  | .blk id b, Q, Q', fr, st, h, hq => by
    refine spV_wp hA b _ _ fr st h ?_
    intro e fr st h
    cases e with
    | normal => exact hq _ _ _ h
    | exit id' =>
      simp only [blkK] at h ⊢
      split
      · rename_i hi; rw [if_pos hi] at h; exact hq _ _ _ h
      · rename_i hi; rw [if_neg hi] at h; exact hq _ _ _ h
    | ret => exact hq _ _ _ h
  | .loop b, Q, Q', fr, st, h, hq => by
    intro R hR
    refine h.h.h R fun fr fr' st hl hx => hR fr fr' st hl ?_
    refine spV_wp hA b _ _ fr' st hx ?_
    intro e fr st h
    cases e with
    | normal => exact h
    | exit id => exact hq _ _ _ h
    | ret => exact hq _ _ _ h
  | .exit id, Q, Q', fr, st, h, hq => hq _ _ _ h
  | .ret, Q, Q', fr, st, h, hq => hq _ _ _ h
  | .no, _, _, _, _, h, _ => h.elim
theorem SLoopV.un {P : Program} {b : AC} {ib : RunCV} {Q : Ex → Fr → St → Prop} {fr : Fr} {st : St} (e : spV (ACall P) b = ib) (h : ib (seqK (SLoopV (ACall P) b ib Q) Q) fr st) : SLoopV (ACall P) b ib Q fr st := by
  subst e
  refine ⟨⟨fun R hR => hR fr fr st (Fr.le_refl _) (spV_mono (ACall.mono P) b _ _ fr st h ?_)⟩⟩
  intro e fr st hx
  cases e with
  | normal => exact hx.h.h R hR
  | exit id => exact hx
  | ret => exact hx
theorem SLoopV.by {P : Program} {b : AC} {ib : RunCV} {Q : Ex → Fr → St → Prop} {fr : Fr} {st : St} (I : Nat → Fr → St → Prop) (n : Nat) (h0 : I n fr st)
    (hs : ∀ n fr st, I n fr st → ∃ fr', Fr.le fr' fr ∧ ∀ R : Fr → St → Prop, (∀ m fr st, m < n → I m fr st → R fr st) → ib (seqK R Q) fr' st) : SLoopV (ACall P) b ib Q fr st := ⟨SLoop.by I n h0 hs⟩
theorem fn_sv {P : Program} {f : Nat} {F : AFn} (hk : okFn P f F = true) {args : List V} (hn : args.length = F.nparams) {h : Heap} {K : V → Heap → Prop}
    (hw : (paramFrame 0 args).fS fun fr => spV (ACall P) F.body (retK F.results K) fr (gst h)) : ACall P f args h K := by
  rw [Fr.fS_eq] at hw
  exact fn_ok hk hn (spV_wp (ACall.mono P) _ _ _ _ _ hw fun _ _ _ h => h)
end Go.Eng
