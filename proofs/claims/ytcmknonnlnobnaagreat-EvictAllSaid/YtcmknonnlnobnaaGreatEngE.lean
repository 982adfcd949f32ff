/-
Symbolic runs in any heap: values are spelt out behind each operation, objects when they are looked up.
-/
import Derived.Test.YtcmknonnlnobnaaGreatEngD
import Derived.Maps.RangeRun
set_option linter.unusedVariables false
set_option linter.unusedSimpArgs false
namespace Go.Eng
open Go
def outVs {α : Type} (x : R) (k : V → St → α) : α :=
 match x with
 | (v, st) => v.f3 fun v => k v st
theorem outVs_eq {α : Type} (v : V) (st : St) (k : V → St → α) : outVs (v, st) k = k v st := by
 simp only [outVs, V.f3_eq]
abbrev stepVs (o : AOp) (fr : Fr) (st : St) : T R := stepS o fr st
theorem stepV_wp {A : CallP} {o : AOp} {fr : Fr} {st : St} {K : R → Prop} (h : (stepVs o fr st).wp A K) : (step o fr st).wp A K := stepS_wp h
noncomputable def T.sv {α : Type} (A : CallP) (t : T α) : (α → Prop) → Prop :=
 T.rec (motive := fun _ => (α → Prop) → Prop) (fun a K => K a) (fun c _ _ it ie K => SIf c (it K) (ie K)) (fun o _ ih K => SEx o fun x => ih x K) (fun o _ ih K => SEx o fun x => ih x K) (fun o _ ih K => SEx o fun x => ih x K)
  (fun o _ ih K => SEx o fun x => ih x K) (fun o _ ih K => SEx o fun x => Obj.fS x fun x => ih x K) (fun o _ _ ihn ih K => SOpt o (ihn K) fun x => ih x K) (fun c _ ih K => SChk c (ih K)) (fun kd n _ ih K => SWrap kd n fun x => ih x K) (fun _ ih K => SAny fun r => ih r K)
  (fun v u _ ih K => SSame v u (ih K)) (fun f as h _ ih K => SCall A f as h fun r h' => ih r h' K) (fun _ => False) t
theorem T.sv_eq {α : Type} (A : CallP) (t : T α) : ∀ K, t.sv A K = t.sp A K := by
 induction t with
 | ret a => exact fun K => rfl
 | ite c t e iht ihe => intro K; show SIf c (t.sv A K) (e.sv A K) = _; rw [iht, ihe]; rfl
 | elem o k ih => intro K; show (SEx o fun x => (k x).sv A K) = _; simp only [ih]; rfl
 | byte o k ih => intro K; show (SEx o fun x => (k x).sv A K) = _; simp only [ih]; rfl
 | els o k ih => intro K; show (SEx o fun x => (k x).sv A K) = _; simp only [ih]; rfl
 | bys o k ih => intro K; show (SEx o fun x => (k x).sv A K) = _; simp only [ih]; rfl
 | obj o k ih => intro K; show (SEx o fun x => Obj.fS x fun x => (k x).sv A K) = _; simp only [Obj.fS_eq, ih]; rfl
 | optc o n k ihn ih => intro K; show (SOpt o (n.sv A K) fun x => (k x).sv A K) = _; simp only [ihn, ih]; rfl
 | chk c k ih => intro K; show SChk c (k.sv A K) = _; rw [ih]; rfl
 | wrap kd n k ih => intro K; show (SWrap kd n fun x => (k x).sv A K) = _; simp only [ih]; rfl
 | any k ih => intro K; show (SAny fun x => (k x).sv A K) = _; simp only [ih]; rfl
 | same v u k ih => intro K; show SSame v u (k.sv A K) = _; rw [ih]; rfl
 | call f as h k ih => intro K; show (SCall A f as h fun r h' => (k r h').sv A K) = _; simp only [ih]; rfl
 | fail => exact fun K => rfl
abbrev RunV := Fr → St → T (Fr × St)
noncomputable def opV (o : AOper) (ih : RunV) : RunV := fun fr st =>
 match o.guard with
 | none => (stepVs o.op fr st).bq fun x => outVs x fun v st => fr.after o.dst v o.kill fun fr => ih fr st
 | some (t, want) => match fr.get t with
   | .b x => match want with
     | true => .ite x
       (fr.cut [t] fun r => (stepVs o.op ((t, .b true) :: r) st).bq fun x => outVs x fun v st => Fr.after ((t, .b true) :: r) o.dst v o.kill fun fr => ih fr st)
       (fr.cut [t] fun r => Fr.after ((t, .b false) :: r) o.dst (.tup []) o.kill fun fr => ih fr st)
     | false => .ite x
       (fr.cut [t] fun r => Fr.after ((t, .b true) :: r) o.dst (.tup []) o.kill fun fr => ih fr st)
       (fr.cut [t] fun r => (stepVs o.op ((t, .b false) :: r) st).bq fun x => outVs x fun v st => Fr.after ((t, .b false) :: r) o.dst v o.kill fun fr => ih fr st)
   | .tup _ => fr.after o.dst (.tup []) o.kill fun fr => ih fr st
   | _ => .fail
noncomputable def runOpsV (l : List AOper) : RunV :=
 List.rec (motive := fun _ => RunV) (fun fr st => .ret (fr, st)) (fun o _ ih => opV o ih) l
theorem runOpsV_cons (o : AOper) (l : List AOper) : runOpsV (o :: l) = opV o (runOpsV l) := rfl
theorem runOpsV_wp {A : CallP} (hA : A.Mono) : ∀ (ops : List AOper) (fr : Fr) (st : St) (K : Fr × St → Prop), (runOpsV ops fr st).wp A K → (runOps ops fr st).wp A K
 | [], fr, st, K, h => h
 | o :: rest, fr, st, K, h => by
   have one : ∀ {fr0 : Fr}, ((stepVs o.op fr0 st).bq fun x => outVs x fun v st => fr0.after o.dst v o.kill fun fr => runOpsV rest fr st).wp A K → ((step o.op fr0 st).bind fun x => match x with
    | (v, st) => fr0.after o.dst v o.kill fun fr => runOps rest fr st).wp A K := by
    intro fr0 h
    rw [T.bq_eq, T.wp_bind] at h
    rw [T.wp_bind]
    refine stepV_wp ?_
    revert h
    refine T.wp_mono hA ?_
    rintro ⟨v, st⟩ h
    dsimp only at h ⊢
    rw [outVs_eq, Fr.after_eq] at h
    rw [Fr.after_eq]
    exact runOpsV_wp hA rest _ _ K h
   have two : ∀ {fr0 : Fr}, (fr0.after o.dst (.tup []) o.kill fun fr => runOpsV rest fr st).wp A K → (fr0.after o.dst (.tup []) o.kill fun fr => runOps rest fr st).wp A K := by
    intro fr0 h
    rw [Fr.after_eq] at h ⊢
    exact runOpsV_wp hA rest _ _ K h
   rw [runOpsV_cons] at h
   obtain ⟨dst, op, g, kill⟩ := o
   cases g with
   | none => exact one h
   | some q =>
     obtain ⟨t, want⟩ := q
     simp only [opV] at h
     simp only [runOps]
     generalize fr.get t = v at h ⊢
     cases v <;> (try exact h)
     case b x =>
      cases want
      · refine ⟨fun hc => ?_, fun hc => ?_⟩
        · have h := h.1 hc
          rw [Fr.cut_eq] at h ⊢
          exact two h
        · have h := h.2 hc
          rw [Fr.cut_eq] at h ⊢
          exact one h
      · refine ⟨fun hc => ?_, fun hc => ?_⟩
        · have h := h.1 hc
          rw [Fr.cut_eq] at h ⊢
          exact one h
        · have h := h.2 hc
          rw [Fr.cut_eq] at h ⊢
          exact two h
     case tup vs => exact two h
abbrev RunDV := List DOper → Fr → St → T (Fr × St)
noncomputable def dopV (d : DOper) (ih : RunDV) : RunDV := fun done fr st => gated d.o.guard fr
 (fun fr => (stepVs d.o.op fr st).bq fun x => outVs x fun v st => fr.after d.o.dst v [] fun fr => recheck d.re done fr st (ih (d :: done) fr st))
 (fun fr => fr.after d.o.dst (.tup []) [] fun fr => ih (d :: done) fr st)
noncomputable def runDV (l : List DOper) : RunDV :=
 List.rec (motive := fun _ => RunDV) (fun _ fr st => .ret (fr, st)) (fun d _ ih => dopV d ih) l
theorem runDV_cons (o : DOper) (l : List DOper) : runDV (o :: l) = dopV o (runDV l) := rfl
theorem runDV_wp {A : CallP} (hA : A.Mono) : ∀ (ds done : List DOper) (fr : Fr) (st : St) (K : Fr × St → Prop), (runDV ds done fr st).wp A K → (runD done ds fr st).wp A K
 | [], done, fr, st, K, h => h
 | d :: rest, done, fr, st, K, h => by
   rw [runDV_cons] at h
   simp only [dopV] at h
   simp only [runD]
   refine gated_mono (fun fr h => ?_) (fun fr h => ?_) h
   · rw [T.bq_eq, T.wp_bind] at h
     rw [T.wp_bind]
     refine stepV_wp ?_
     refine T.wp_mono hA ?_ h
     rintro ⟨v, st⟩ h
     dsimp only at h ⊢
     rw [outVs_eq, Fr.after_eq] at h
     rw [Fr.after_eq]
     exact recheck_mono hA (fun h => runDV_wp hA rest _ _ _ K h) h
   · rw [Fr.after_eq] at h ⊢
     exact runDV_wp hA rest _ _ _ K h
abbrev RunCV := (Ex → Fr → St → Prop) → Fr → St → Prop
structure SLoopV (A : CallP) (b : AC) (ib : RunCV) (Q : Ex → Fr → St → Prop) (fr : Fr) (st : St) : Prop where
 h : SLoop (fun R => ib (seqK R Q)) fr st
noncomputable def spV (A : CallP) (c : AC) : RunCV :=
 AC.rec (motive := fun _ => RunCV) (fun Q fr st => Q .normal fr st) (fun ops Q fr st => (runOpsV ops fr st).sv A (regK Q)) (fun ds kill Q fr st => ((runDV ds [] fr st).bq (cutT kill)).sv A (regK Q))
  (fun _ _ ia ib Q fr st => ia (seqK (ib Q) Q) fr st)
  (fun c _ _ ia ib Q fr st => match c.ev fr with
    | .b x => SIf x (ia Q fr st) (ib Q fr st)
    | _ => False)
  (fun id _ ib Q fr st => ib (blkK id Q) fr st) (fun b ib Q fr st => SLoopV A b ib Q fr st) (fun id Q fr st => Q (.exit id) fr st) (fun Q fr st => Q .ret fr st) (fun _ _ _ => False) c
theorem spV_cond (A : CallP) (c : Opd) (a b : AC) (Q : Ex → Fr → St → Prop) (fr : Fr) (st : St) : spV A (.cond c a b) Q fr st = match c.ev fr with
 | .b x => SIf x (spV A a Q fr st) (spV A b Q fr st)
 | _ => False := rfl
theorem spV_mono {A : CallP} (hA : A.Mono) : ∀ (c : AC) (Q Q' : Ex → Fr → St → Prop) (fr : Fr) (st : St), spV A c Q fr st → (∀ e fr st, Q e fr st → Q' e fr st) → spV A c Q' fr st
 | .skip, Q, Q', fr, st, h, hq => hq _ _ _ h
 | .reg ops, Q, Q', fr, st, h, hq => by
   have h : (runOpsV ops fr st).sv A (regK Q) := h
   show (runOpsV ops fr st).sv A (regK Q')
   rw [T.sv_eq] at h ⊢
   exact T.sp_mono hA _ (fun ⟨_, _⟩ h => hq _ _ _ h) h
 | .dreg ds kill, Q, Q', fr, st, h, hq => by
   have h : ((runDV ds [] fr st).bq (cutT kill)).sv A (regK Q) := h
   show ((runDV ds [] fr st).bq (cutT kill)).sv A (regK Q')
   rw [T.sv_eq] at h ⊢
   exact T.sp_mono hA _ (fun ⟨_, _⟩ h => hq _ _ _ h) h
 | .seq a b, Q, Q', fr, st, h, hq => by
   refine spV_mono hA a _ _ fr st h ?_
   intro e fr st h
   cases e with
   | normal => exact spV_mono hA b _ _ fr st h hq
   | exit id => exact hq _ _ _ h
   | ret => exact hq _ _ _ h
 | .cond c a b, Q, Q', fr, st, h, hq => by
   rw [spV_cond] at h ⊢
   split at h
   · exact ⟨fun hc => spV_mono hA a _ _ _ _ (h.t hc) hq, fun hc => spV_mono hA b _ _ _ _ (h.f hc) hq⟩
   · exact h.elim
 | .blk id b, Q, Q', fr, st, h, hq => by
   refine spV_mono hA b _ _ fr st h ?_
   intro e fr st h
   cases e with
   | normal => exact hq _ _ _ h
   | exit id' =>
     simp only [blkK] at h ⊢
     split
     · rename_i hi; rw [if_pos hi] at h; exact hq _ _ _ h
     · rename_i hi; rw [if_neg hi] at h; exact hq _ _ _ h
   | ret => exact hq _ _ _ h
 | .loop b, Q, Q', fr, st, h, hq => by
   refine SLoopV.mk ⟨fun R hR => h.h.h R fun fr fr' st hl hx => hR fr fr' st hl ?_⟩
   refine spV_mono hA b _ _ fr' st hx ?_
   intro e fr st h
   cases e with
   | normal => exact h
   | exit id => exact hq _ _ _ h
   | ret => exact hq _ _ _ h
 | .exit id, Q, Q', fr, st, h, hq => hq _ _ _ h
 | .ret, Q, Q', fr, st, h, hq => hq _ _ _ h
 | .no, _, _, _, _, h, _ => h.elim
theorem spV_wp {A : CallP} (hA : A.Mono) : ∀ (c : AC) (Q Q' : Ex → Fr → St → Prop) (fr : Fr) (st : St), spV A c Q fr st → (∀ e fr st, Q e fr st → Q' e fr st) → wpC A c Q' fr st
 | .skip, Q, Q', fr, st, h, hq => hq _ _ _ h
 | .reg ops, Q, Q', fr, st, h, hq => by
   have h : (runOpsV ops fr st).sv A (regK Q) := h
   rw [T.sv_eq] at h
   exact T.wp_mono hA (fun ⟨_, _⟩ h => hq _ _ _ h) (runOpsV_wp hA ops fr st _ (T.sp_wp hA _ _ h))
 | .dreg ds kill, Q, Q', fr, st, h, hq => by
   refine T.wp_mono hA (fun ⟨_, _⟩ h => hq _ _ _ h) (?_ : T.wp A _ (regK Q))
   have h : ((runDV ds [] fr st).bq (cutT kill)).sv A (regK Q) := h
   rw [T.sv_eq, T.bq_eq] at h
   have h := T.sp_wp hA _ _ h
   rw [T.wp_bind] at h ⊢
   exact runDV_wp hA _ _ _ _ _ h
 | .seq a b, Q, Q', fr, st, h, hq => by
   refine spV_wp hA a _ _ fr st h ?_
   intro e fr st h
   cases e with
   | normal => exact spV_wp hA b _ _ fr st h hq
   | exit id => exact hq _ _ _ h
   | ret => exact hq _ _ _ h
 | .cond c a b, Q, Q', fr, st, h, hq => by
   rw [spV_cond] at h
   simp only [wpC]
   split at h
   · rename_i x hx
     rw [hx]
     exact ⟨fun hc => spV_wp hA a _ _ _ _ (h.t hc) hq, fun hc => spV_wp hA b _ _ _ _ (h.f hc) hq⟩
   · exact h.elim
 | .blk id b, Q, Q', fr, st, h, hq => by
   refine spV_wp hA b _ _ fr st h ?_
   intro e fr st h
   cases e with
   | normal => exact hq _ _ _ h
   | exit id' =>
     simp only [blkK] at h ⊢
     split
     · rename_i hi; rw [if_pos hi] at h; exact hq _ _ _ h
     · rename_i hi; rw [if_neg hi] at h; exact hq _ _ _ h
   | ret => exact hq _ _ _ h
 | .loop b, Q, Q', fr, st, h, hq => by
   intro R hR
   refine h.h.h R fun fr fr' st hl hx => hR fr fr' st hl ?_
   refine spV_wp hA b _ _ fr' st hx ?_
   intro e fr st h
   cases e with
   | normal => exact h
   | exit id => exact hq _ _ _ h
   | ret => exact hq _ _ _ h
 | .exit id, Q, Q', fr, st, h, hq => hq _ _ _ h
 | .ret, Q, Q', fr, st, h, hq => hq _ _ _ h
 | .no, _, _, _, _, h, _ => h.elim
theorem SLoopV.un {P : Program} {b : AC} {ib : RunCV} {Q : Ex → Fr → St → Prop} {fr : Fr} {st : St} (e : spV (ACall P) b = ib) (h : ib (seqK (SLoopV (ACall P) b ib Q) Q) fr st) : SLoopV (ACall P) b ib Q fr st := by
 subst e
 refine ⟨⟨fun R hR => hR fr fr st (Fr.le_refl _) (spV_mono (ACall.mono P) b _ _ fr st h ?_)⟩⟩
 intro e fr st hx
 cases e with
 | normal => exact hx.h.h R hR
 | exit id => exact hx
 | ret => exact hx
theorem SLoopV.by {P : Program} {b : AC} {ib : RunCV} {Q : Ex → Fr → St → Prop} {fr : Fr} {st : St} (I : Nat → Fr → St → Prop) (n : Nat) (h0 : I n fr st)
 (hs : ∀ n fr st, I n fr st → ∃ fr', Fr.le fr' fr ∧ ∀ R : Fr → St → Prop, (∀ m fr st, m < n → I m fr st → R fr st) → ib (seqK R Q) fr' st) : SLoopV (ACall P) b ib Q fr st := ⟨SLoop.by I n h0 hs⟩
theorem fn_sv {P : Program} {f : Nat} {F : AFn} (hk : okFn P f F = true) {args : List V} (hn : args.length = F.nparams) {h : Heap} {K : V → Heap → Prop}
 (hw : (paramFrame 0 args).fS fun fr => spV (ACall P) F.body (retK F.results K) fr (gst h)) : ACall P f args h K := by
 rw [Fr.fS_eq] at hw
 exact fn_ok hk hn (spV_wp (ACall.mono P) _ _ _ _ _ hw fun _ _ _ h => h)
end Go.Eng
/-
A loop over a map: whichever entry comes next.
-/
namespace Go.Eng
open Go Go.ChangeMaps
def St.ins (st : St) (k : Key) (o : Obj) : St :=
 match k with
 | .g n => ⟨⟨st.g.next, (n, o) :: st.g.objs⟩, st.l⟩
 | .l n => ⟨st.g, ⟨st.l.next, (n, o) :: st.l.objs⟩⟩
theorem St.get_ins (st : St) (k k' : Key) (o : Obj) : (st.ins k o).get k' = if k' = k then some o else st.get k' := by
 cases k <;> cases k' <;> simp [St.ins, St.get, Heap.get, Heap.find, eq_comm]
structure St.Same (a b : St) : Prop where
 g : a.g.next = b.g.next
 l : a.l.next = b.l.next
 get : ∀ k, a.get k = b.get k
theorem St.Same.live {a b : St} (h : St.Same a b) {k : Key} : a.live k ↔ b.live k := by unfold St.live; rw [h.get]
theorem Sim.same {E : Env} {a b : St} {w : World} (hs : Sim E a w) (h : St.Same b a) : Sim E b w :=
 ⟨h.g.trans hs.ng, h.l.trans hs.nl, fun k hk => hs.dom k (h.live.1 hk), hs.imm, fun k o hk => hs.obj k o (by rw [← h.get]; exact hk), fun k k' hk hk' => hs.sep k k' (h.live.1 hk) (h.live.1 hk'), fun k hk => hs.own k (h.live.1 hk)⟩
theorem Ext.same_r {E : Env} {st : St} {w : World} {E' : Env} {a b : St} {w' : World} (he : Ext E st w E' a w') (h : St.Same b a) : Ext E st w E' b w' :=
 ⟨he.le, he.size, he.immNew, fun k hk => he.keyOld k (h.live.1 hk), fun k hk => he.keyNew k (h.live.1 hk), he.same, he.os, he.out, he.tape⟩
theorem St.same_back {h lo : Heap} {mk : Nat} {o : Obj} (hm : h.get mk = some o) : St.Same ⟨h, lo⟩ (St.ins ⟨h.remove mk, lo⟩ (.g mk) o) := by
 refine ⟨rfl, rfl, fun k => ?_⟩
 rw [St.get_ins]
 split
 · rename_i e; subst e; exact hm
 · rename_i e
   cases k with
   | g n =>
     show h.get n = (h.remove mk).get n
     rw [Heap.get_remove, if_neg fun c => e (by rw [c])]
   | l n => rfl
def St.bump (st : St) : St := ⟨st.g, ⟨st.l.next + 1, st.l.objs⟩⟩
theorem St.get_bump (st : St) (k : Key) : st.bump.get k = st.get k := by cases k <;> rfl
theorem St.live_bump {st : St} {k : Key} : st.bump.live k ↔ st.live k := by unfold St.live; rw [St.get_bump]
abbrev Env.aside (E : Env) (r : Nat) : Env := E.push false ⟨r, 0, 0⟩ fun _ _ => none
theorem Env.aside_I (E : Env) (r b o : Nat) : (E.aside r).I b o = E.I b o := by
 simp only [Env.aside, Env.push]
 cases E.I b o <;> rfl
theorem Env.aside_le (E : Env) (r : Nat) : E.Le (E.aside r) := Env.push_le _ _ _ _
theorem Env.aside_mu {E : Env} {r : Nat} {k : Key} (hk : E.has k) : (E.aside r).μ k = E.μ k := (E.aside_le r).loc k hk
theorem Sim.aside {E : Env} {st : St} {w w' : World} (h : Sim E st w) {ob : Go.Obj} (hh : w'.heap = w.heap.push ob) : Sim (E.aside w.heap.size) st.bump w' := by
 have hle := E.aside_le w.heap.size
 have hold : ∀ b, b < w.heap.size → w'.heap[b]? = w.heap[b]? := fun b hb => by rw [hh, Array.getElem?_push, if_neg (by omega)]
 have hlt : ∀ b o x, cellIn w b o = some x → b < w.heap.size := by
  intro b o x hx
  rcases Nat.lt_or_ge b w.heap.size with hl | hl
  · exact hl
  · simp [cellIn, Array.getElem?_eq_none hl] at hx
 refine ⟨h.ng, ?_, fun k hk => hle.has (h.dom k (St.live_bump.1 hk)), fun b o x hx => ?_, fun k o hk => ?_, fun k k' hk hk' hne => ?_, fun k hk j h1 h2 => ?_⟩
 · show st.l.next + 1 = E.nl + 1
   rw [h.nl]
 · rw [Env.aside_I] at hx
   have := h.imm b o x hx
   simp only [cellIn, hold b (hlt _ _ _ this)] at *
   exact this
 · rw [St.get_bump] at hk
   have hl : st.live k := ⟨o, hk⟩
   have := h.obj k o hk
   rw [Env.aside_mu (h.dom k hl)]
   exact Holds.keep (Env.at_mono hle k) (hold _ (h.lt hl)) this
 · have h1 := St.live_bump.1 hk
   have h2 := St.live_bump.1 hk'
   rw [Env.aside_mu (h.dom k h1), Env.aside_mu (h.dom k' h2)]
   exact h.sep k k' h1 h2 hne
 · have hl := St.live_bump.1 hk
   rw [Env.aside_mu (h.dom k hl)] at h1 h2 ⊢
   rw [Env.aside_I]
   exact h.own k hl j h1 h2
theorem Ext.aside {E0 : Env} {st0 : St} {w0 : World} {E : Env} {st : St} {w w' : World} (he : Ext E0 st0 w0 E st w) (hs : Sim E st w) {ob : Go.Obj} (hh : w'.heap = w.heap.push ob) (h1 : w'.os = w.os) (h2 : w'.output = w.output) (h3 : w'.tape = w.tape) :
 Ext E0 st0 w0 (E.aside w.heap.size) st.bump w' := by
 refine he.trans ⟨E.aside_le _, by rw [hh]; simp, fun b o x hx => .inl (by rwa [Env.aside_I] at hx), fun k hk _ => St.live_bump.1 hk, fun k hk hn => absurd (hs.dom k (St.live_bump.1 hk)) hn, fun b hb _ => ?_, h1, h2, h3⟩
 rw [hh, Array.getElem?_push, if_neg (by omega)]
theorem Sim.less {E : Env} {st : St} {w : World} (h : Sim E st w) (k : Key) : Sim E (st.remove k) w := by
 have hg : ∀ k' o, (st.remove k).get k' = some o → st.get k' = some o := by
  intro k' o ho
  rw [St.get_remove] at ho
  split at ho
  · cases ho
  · exact ho
 have hl : ∀ k', (st.remove k).live k' → st.live k' := fun k' ⟨o, ho⟩ => ⟨o, hg k' o ho⟩
 refine ⟨?_, ?_, fun k' hk => h.dom k' (hl k' hk), h.imm, fun k' o hk => h.obj k' o (hg k' o hk), fun k1 k2 h1 h2 => h.sep k1 k2 (hl _ h1) (hl _ h2), fun k' hk => h.own k' (hl _ hk)⟩
 · rw [← h.ng]; cases k <;> rfl
 · rw [← h.nl]; cases k <;> rfl
theorem Sim.turn {E : Env} {st : St} {w w' : World} (h : Sim E st w) {r : Nat} (hb : ∀ b, b ≠ r → w'.heap[b]? = w.heap[b]?) (hk : ∀ k, st.live k → (E.μ k).blk ≠ r) (hi : ∀ j, E.I r j = none) : Sim E st w' := by
 refine ⟨h.ng, h.nl, h.dom, fun b o x hx => ?_, fun k o ho => Holds.keep (.refl _) (hb _ (hk k ⟨o, ho⟩)) (h.obj k o ho), h.sep, h.own⟩
 by_cases hbr : b = r
 · subst hbr; rw [hi] at hx; cases hx
 · have := h.imm b o x hx
   simp only [cellIn, hb b hbr] at *
   exact this
structure Trk (mk itk : Key) (kd : Option IntKind) (es : List (V × V)) (ents : Array MapEntry) (clock r : Nat) (E : Env) (st : St) (w : World) (seen : Array Nat) : Prop where
 hm : E.has mk
 hi : E.has itk
 ei : E.μ itk = ⟨r, 0, 0⟩
 bm : w.heap[(E.μ mk).blk]? = some (.map ents clock)
 it : w.heap[r]? = some (.mapIter (some (E.μ mk).blk) clock seen clock)
 bo : Born ents clock
 sz : ents.size = es.length
 rel : ∀ (j : Nat) (q : V × V) (e : MapEntry), es[j]? = some q → ents[j]? = some e → RelD E.I q.1 e.key ∧ q.1.isKeyOf kd = true ∧ Rel (E.at mk) q.2 e.val
 apart : ∀ k, st.live k → (E.μ k).blk ≠ (E.μ mk).blk ∧ (E.μ k).blk ≠ r
 own : ∀ j, (E.μ mk).base ≤ j → j < (E.μ mk).fin → E.I (E.μ mk).blk j = none
theorem Trk.step {mk itk : Key} {kd : Option IntKind} {es : List (V × V)} {ents : Array MapEntry} {clock r : Nat} {E : Env} {st : St} {w : World} {seen : Array Nat} (h : Trk mk itk kd es ents clock r E st w seen)
 {E' : Env} {st' : St} {w' : World} (he : Ext E st w E' st' w') : Trk mk itk kd es ents clock r E' st' w' seen := by
 have e1 := he.le.loc mk h.hm
 have l1 : (E.μ mk).blk < w.heap.size := (Array.getElem?_eq_some_iff.1 h.bm).1
 have l2 : r < w.heap.size := (Array.getElem?_eq_some_iff.1 h.it).1
 refine ⟨he.le.has h.hm, he.le.has h.hi, (he.le.loc itk h.hi).trans h.ei, ?_, ?_, h.bo, h.sz, fun j q e h1 h2 => ?_, fun k hk => ?_, fun j h1 h2 => ?_⟩
 · rw [e1, he.same _ l1 fun k hk => (h.apart k hk).1]; exact h.bm
 · rw [e1, he.same _ l2 fun k hk => (h.apart k hk).2]; exact h.it
 · obtain ⟨a, b, c⟩ := h.rel j q e h1 h2
   exact ⟨a.mono he.le.imm, b, c.mono (Env.at_mono he.le mk)⟩
 · rw [e1]
   by_cases hh : E.has k
   · rw [he.le.loc k hh]; exact h.apart k (he.keyOld k hk hh)
   · rcases he.keyNew k hk hh with h1 | ⟨k0, h1, h2⟩
     · exact ⟨by omega, by omega⟩
     · rw [← h2]; exact h.apart k0 h1
 · rw [e1] at h1 h2 ⊢
   cases hx : E'.I (E.μ mk).blk j with
   | none => rfl
   | some x =>
     rcases he.immNew _ _ _ hx with h3 | h3 | ⟨k, h3, h4⟩
     · rw [h.own j h1 h2] at h3; cases h3
     · omega
     · exact absurd h4 (h.apart k h3).1
theorem Trk.back {mk itk : Key} {kd : Option IntKind} {es : List (V × V)} {ents : Array MapEntry} {clock r : Nat} {E : Env} {st : St} {w : World} {seen : Array Nat} (h : Trk mk itk kd es ents clock r E st w seen) (hs : Sim E st w) : Sim E (st.ins mk (.mp kd es)) w := by
 have hl : ∀ k, (st.ins mk (.mp kd es)).live k → k = mk ∨ k ≠ mk ∧ st.live k := by
  rintro k ⟨o, ho⟩
  rw [St.get_ins] at ho
  split at ho
  · exact .inl ‹_›
  · exact .inr ⟨‹_›, o, ho⟩
 refine ⟨?_, ?_, fun k hk => ?_, hs.imm, fun k o ho => ?_, fun k k' hk hk' hne => ?_, fun k hk j h1 h2 => ?_⟩
 · rw [← hs.ng]; cases mk <;> rfl
 · rw [← hs.nl]; cases mk <;> rfl
 · rcases hl k hk with rfl | ⟨_, h1⟩
   · exact h.hm
   · exact hs.dom k h1
 · rw [St.get_ins] at ho
   split at ho
   · rename_i hk
     cases ho
     subst hk
     exact ⟨ents, clock, h.bm, h.sz, fun j q e h1 h2 => by
      obtain ⟨a, b, c⟩ := h.rel j q e h1 h2
      exact ⟨by cases k <;> exact a, b, c⟩, h.bo⟩
   · exact hs.obj k o ho
 · rcases hl k hk with rfl | ⟨_, h1⟩ <;> rcases hl k' hk' with rfl | ⟨_, h2⟩
   · exact absurd rfl hne
   · exact Ne.symm (h.apart k' h2).1
   · exact (h.apart k h1).1
   · exact hs.sep k k' h1 h2 hne
 · rcases hl k hk with rfl | ⟨_, h3⟩
   · exact h.own j h1 h2
   · exact hs.own k h3 j h1 h2
theorem Ext.ins {E : Env} {st : St} {w : World} {E' : Env} {st' : St} {w' : World} (he : Ext E st w E' st' w') {mk : Key} (o : Obj) (hm : E.has mk) : Ext E (st.ins mk o) w E' (st'.ins mk o) w' := by
 have hl : ∀ (a : St) k, (a.ins mk o).live k ↔ k = mk ∨ a.live k := by
  intro a k
  unfold St.live
  rw [St.get_ins]
  split
  · rename_i h; simp [h]
  · rename_i h; simp [h]
 refine ⟨he.le, he.size, fun b j x hx => ?_, fun k hk hh => ?_, fun k hk hh => ?_, fun b hb hn => he.same b hb fun k hk => hn k ((hl st k).2 (.inr hk)), he.os, he.out, he.tape⟩
 · rcases he.immNew b j x hx with h1 | h1 | ⟨k, h1, h2⟩
   · exact .inl h1
   · exact .inr (.inl h1)
   · exact .inr (.inr ⟨k, (hl st k).2 (.inr h1), h2⟩)
 · rcases (hl st' k).1 hk with rfl | h1
   · exact (hl st k).2 (.inl rfl)
   · exact (hl st k).2 (.inr (he.keyOld k h1 hh))
 · rcases (hl st' k).1 hk with rfl | h1
   · exact absurd hm hh
   · rcases he.keyNew k h1 hh with h2 | ⟨k0, h2, h3⟩
     · exact .inl h2
     · exact .inr ⟨k0, (hl st k0).2 (.inr h2), h3⟩
def leftL (es : List (V × V)) (ents : Array MapEntry) (seen : Array Nat) : List (V × V) := ((es.zip ents.toList).filter fun p => !seen.contains p.2.born).map Prod.fst
theorem leftL_nil {es : List (V × V)} {ents : Array MapEntry} {seen : Array Nat} (h : (leftOf ents seen).size = 0) : leftL es ents seen = [] := by
 have h0 : leftOf ents seen = #[] := Array.eq_empty_of_size_eq_zero h
 unfold leftOf at h0
 unfold leftL
 rw [List.map_eq_nil_iff, List.filter_eq_nil_iff]
 intro p hp
 have hm : p.2 ∈ ents := by simpa using (List.of_mem_zip hp).2
 have := (Array.filter_eq_empty_iff.1 h0) p.2 hm
 simpa using this
theorem leftL_all {es : List (V × V)} {ents : Array MapEntry} (h : ents.size = es.length) : leftL es ents #[] = es := by
 unfold leftL
 rw [List.filter_eq_self.2 (fun p _ => by simp), List.map_fst_zip]
 simp [h]
theorem contains_push (seen : Array Nat) (b c : Nat) : (seen.push b).contains c = (seen.contains c || decide (c = b)) := by
 rw [Bool.eq_iff_iff]
 simp
theorem born_split {b : Nat} : ∀ {Z : List ((V × V) × MapEntry)} (seen : Array Nat) {j : Nat} {p : (V × V) × MapEntry}, (Z.map fun q => q.2.born).Nodup → Z[j]? = some p → p.2.born = b → seen.contains b = false →
 ∃ A B, Z.filter (fun q => !seen.contains q.2.born) = A ++ p :: B ∧ Z.filter (fun q => !(seen.push b).contains q.2.born) = A ++ B
 | [], _, _, _, _, h, _, _ => by simp at h
 | q :: Z, seen, 0, p, hn, h, hb, hs => by
   simp only [List.getElem?_cons_zero, Option.some.injEq] at h
   subst h
   rw [List.map_cons, List.nodup_cons] at hn
   refine ⟨[], Z.filter fun q => !seen.contains q.2.born, ?_, ?_⟩
   · rw [List.filter_cons_of_pos (by rw [hb, hs]; rfl)]; rfl
   · rw [List.filter_cons_of_neg (by rw [contains_push, hb, decide_eq_true rfl]; simp)]
     refine List.filter_congr fun x hx => ?_
     have : x.2.born ≠ b := fun e => hn.1 (List.mem_map.2 ⟨x, hx, e.trans hb.symm⟩)
     rw [contains_push, decide_eq_false this, Bool.or_false]
 | q :: Z, seen, j + 1, p, hn, h, hb, hs => by
   rw [List.map_cons, List.nodup_cons] at hn
   rw [List.getElem?_cons_succ] at h
   obtain ⟨A, B, h1, h2⟩ := born_split seen hn.2 h hb hs
   have : q.2.born ≠ b := fun e => hn.1 (List.mem_map.2 ⟨p, List.mem_of_getElem? h, hb.trans e.symm⟩)
   rw [List.filter_cons, List.filter_cons, contains_push, decide_eq_false this, Bool.or_false, h1, h2]
   cases seen.contains q.2.born
   · exact ⟨q :: A, B, rfl, rfl⟩
   · exact ⟨A, B, rfl, rfl⟩
theorem leftL_next {es : List (V × V)} {ents : Array MapEntry} {clock : Nat} {seen : Array Nat} (hb : Born ents clock) (hz : ents.size = es.length) {e : MapEntry} (he : e ∈ (leftOf ents seen).toList) :
 ∃ (L1 : List (V × V)) (q : V × V) (L2 : List (V × V)) (j : Nat), leftL es ents seen = L1 ++ q :: L2 ∧ leftL es ents (seen.push e.born) = L1 ++ L2 ∧ es[j]? = some q ∧ ents[j]? = some e := by
 unfold leftOf at he
 have he : e ∈ ents.filter fun e => !seen.contains e.born := Array.mem_def.2 he
 rw [Array.mem_filter] at he
 obtain ⟨h1, h2⟩ := he
 obtain ⟨j, hj, hje⟩ := Array.getElem_of_mem h1
 have hj2 : j < es.length := by omega
 have hzj : (es.zip ents.toList)[j]? = some (es[j], e) := by
  rw [List.getElem?_zip_eq_some]
  exact ⟨List.getElem?_eq_getElem hj2, by simp [hj, hje]⟩
 have hmap : ((es.zip ents.toList).map fun q => q.2.born) = ents.toList.map (·.born) := by
  rw [show (fun q : (V × V) × MapEntry => q.2.born) = (fun e : MapEntry => e.born) ∘ Prod.snd from rfl, ← List.map_map, List.map_snd_zip (by simp [hz])]
 obtain ⟨A, B, h3, h4⟩ := born_split seen (b := e.born) (by rw [hmap]; exact hb.2) hzj rfl (by simpa using h2)
 refine ⟨A.map Prod.fst, es[j], B.map Prod.fst, j, ?_, ?_, List.getElem?_eq_getElem hj2, by simp [hj, hje]⟩
 · unfold leftL; rw [h3]; simp
 · unfold leftL; rw [h4]; simp
structure RNode where
 pre : List AOper
 m : Opd
 it : Nat
 nx : Nat
 tx : Nat
 en : Nat
 b0 : Nat
 b1 : Nat
 post : List AOper
 body : AC
 deriving Inhabited
def backK (mk : Key) (o : Obj) (Q : Ex → Fr → St → Prop) (e : Ex) (fr : Fr) (st : St) : Prop := ∃ st2, St.Same st2 (st.ins mk o) ∧ Q e fr st2
def rndK (b0 b1 : Nat) (R : Fr → St → Prop) (mk : Key) (o : Obj) (Q : Ex → Fr → St → Prop) : Ex → Fr → St → Prop
 | .normal, fr, st => R fr st
 | .exit id, fr, st => if id = b1 then R fr st else if id = b0 then backK mk o Q .normal fr st else backK mk o Q (.exit id) fr st
 | .ret, fr, st => backK mk o Q .ret fr st
def rndX (A : CallP) (n : RNode) (mk itk : Key) (o : Obj) (Q : Ex → Fr → St → Prop) (R : List (V × V) → Fr → St → Prop) (left : List (V × V)) (fr : Fr) (st : St) : Prop :=
 fr.get n.it = .p itk 0 ∧ (left = [] → fr.cut [n.nx, n.tx] fun fr => backK mk o Q .normal fr st) ∧
 ∀ L1 x L2, left = L1 ++ x :: L2 → fr.cut [n.nx, n.tx, n.en] fun fr => spV A (.seq (.reg n.post) n.body) (rndK n.b0 n.b1 (R (L1 ++ L2)) mk o Q) ((n.en, .tup [x.1, x.2]) :: fr) st
structure SRng (A : CallP) (n : RNode) (mk itk : Key) (o : Obj) (Q : Ex → Fr → St → Prop) (es : List (V × V)) (fr : Fr) (st : St) : Prop where
 h : ∀ R : List (V × V) → Fr → St → Prop, (∀ left fr fr' st, Fr.le fr' fr → rndX A n mk itk o Q R left fr' st → R left fr st) → R es fr st
def spN (A : CallP) (n : RNode) (Q : Ex → Fr → St → Prop) (fr : Fr) (st : St) : Prop :=
 (runOpsV n.pre fr st).sv A fun x => match x with
   | (fr, st) => match n.m.ev fr with
    | .m mk => SEx (st.get mk) fun o => match o with
      | .mp kd es => SRng A n mk (.l st.l.next) (.mp kd es) Q es ((n.it, .p (.l st.l.next) 0) :: fr) (st.remove mk).bump
      | _ => False
    | _ => False
inductive RC where
 | ac (c : AC)
 | seq (a b : RC)
 | rng (n : RNode)
 deriving Inhabited
def spR (A : CallP) : RC → (Ex → Fr → St → Prop) → Fr → St → Prop
 | .ac c, Q, fr, st => spV A c Q fr st
 | .seq a b, Q, fr, st => spR A a (seqK (spR A b Q) Q) fr st
 | .rng n, Q, fr, st => spN A n Q fr st
theorem SRng.by {A : CallP} {n : RNode} {mk itk : Key} {o : Obj} {Q : Ex → Fr → St → Prop} {es : List (V × V)} {fr : Fr} {st : St} (I : List (V × V) → Fr → St → Prop) (h0 : I es fr st)
 (hs : ∀ left fr st, I left fr st → ∃ fr', Fr.le fr' fr ∧ ∀ R : List (V × V) → Fr → St → Prop, (∀ l fr st, l.length < left.length → I l fr st → R l fr st) → rndX A n mk itk o Q R left fr' st) : SRng A n mk itk o Q es fr st := by
 refine ⟨fun R hR => ?_⟩
 have key : ∀ (k : Nat) left fr st, left.length = k → I left fr st → R left fr st := by
  intro k
  induction k using Nat.strongRecOn with
  | _ k ih =>
    intro left fr st hk hi
    obtain ⟨fr', hle, hx⟩ := hs left fr st hi
    exact hR left fr fr' st hle (hx R fun l fr st hm hi => ih l.length (by omega) l fr st rfl hi)
 exact key es.length es fr st rfl h0
def okPre (P : Program) (N : Nat) (ops : Array Oper) : List Oper → List AOper → Opd → Nat → Bool
 | [o], [], m, it => decide (o.guard = none) && decide (o.dst = some it) && decide (it < N) && (match o.op with
   | .range t x => okX x m && (match P.underlying t with
     | some (.map _ _) => true
     | _ => false)
   | _ => false)
 | o :: l, A :: as, m, it => okOp P o.op A.op && decide (A.dst = o.dst) && dstOk N o.dst && guardOk ops o.guard A.guard && okPre P N ops l as m it
 | _, _, _, _ => false
theorem okPre_split {P : Program} {N : Nat} {ops : Array Oper} {m : Opd} {it : Nat} : ∀ {l : List Oper} {as : List AOper}, okPre P N ops l as m it = true →
 ∃ l' o t x k e, l = l' ++ [o] ∧ okReg P N ops l' as = true ∧ o.guard = none ∧ o.dst = some it ∧ it < N ∧ o.op = .range t x ∧ okX x m = true ∧ P.underlying t = some (.map k e)
 | [], _, h => by simp [okPre] at h
 | [o], [], h => by
   simp only [okPre, Bool.and_eq_true, decide_eq_true_eq] at h
   obtain ⟨⟨⟨h1, h2⟩, h3⟩, h4⟩ := h
   split at h4
   · rename_i t x ho
     simp only [Bool.and_eq_true] at h4
     obtain ⟨h5, h6⟩ := h4
     split at h6
     · rename_i k e hu
       exact ⟨[], o, t, x, k, e, rfl, rfl, h1, h2, h3, ho, h5, hu⟩
     · cases h6
   · cases h4
 | o :: o' :: l, [], h => by simp [okPre] at h
 | o :: l, A :: as, h => by
   simp only [okPre, Bool.and_eq_true] at h
   obtain ⟨h1, h2⟩ := h
   obtain ⟨l', o', t, x, k, e, rfl, h3, h4⟩ := okPre_split h2
   exact ⟨o :: l', o', t, x, k, e, rfl, by simp only [okReg, h3, Bool.and_true, Bool.and_eq_true]; exact h1, h4⟩
def okNext (N : Nat) (ops : Array Oper) (it nx tx : Nat) : Bool :=
 match ops.toList with
 | [o, o'] => decide (o.guard = none) && decide (o'.guard = none) && decide (o.dst = some nx) && decide (o'.dst = some tx) && decide (nx < N) && decide (tx < N) && decide (nx ≠ it) && decide (tx ≠ it) && (match o.op with
   | .next x false => okX x (.t it)
   | _ => false) && (match o'.op with
   | .extract x 0 => okX x (.t nx)
   | _ => false)
 | _ => false
def okEnt (P : Program) (N : Nat) (ops : Array Oper) (it en : Nat) (post : List AOper) : Bool :=
 match ops.toList with
 | o :: l => decide (o.guard = none) && decide (o.dst = some en) && decide (en < N) && (match o.op with
   | .entry x => okX x (.t it)
   | _ => false) && okReg P N ops l post
 | _ => false
def okRng (P : Program) (N : Nat) (c : Code) (n : RNode) : Bool :=
 match c with
 | .seq (.region _ o1 d1) (.block i0 (.loop (.seq (.region _ o2 d2) (.seq (.cond cx sk (.exit i0')) (.block i1 (.seq (.region _ o3 d3) body)))))) =>
   !d1 && !d2 && !d3 && decide (i0 = n.b0) && decide (i0' = n.b0) && decide (i1 = n.b1) && okPre P N o1 o1.toList n.pre n.m n.it && okNext N o2 n.it n.nx n.tx && okX cx (.t n.tx) && okC P N sk .skip &&
    okEnt P N o3 n.it n.en n.post && okC P N body n.body
 | _ => false
def okR (P : Program) (N : Nat) : Code → RC → Bool
 | c, .ac A => okC P N c A
 | .seq a b, .seq A B => okR P N a A && okR P N b B
 | c, .rng n => okRng P N c n
 | _, _ => false
structure RFn where
 nparams : Nat
 body : RC
 results : List RV
 deriving Inhabited
def okRFn (P : Program) (f : Nat) (F : RFn) : Bool :=
 match P.funcs[f]? with
 | some fn => match fn.body with
   | some c => bodyOk P f && okR P fn.ntmps c F.body && okRes P fn.results.toList F.results && decide (F.nparams ≤ fn.ntmps)
   | none => false
 | none => false
section
variable {P : Program} {N : Nat} {ops : Array Oper}
theorem wp_op {Q : Exit → Act → World → Prop} {i : Nat} {rest : List Nat} {a : Act} {w : World} {o : Oper} (ho : ops[i]? = some o) (hg : o.guard = none) (h : o.wp P a w (wpOps P ops Q rest) Q) : wpOps P ops Q (i :: rest) a w := by
 simp only [wpOps, ho]
 rw [if_pos (by simp [Region.wanted, hg])]
 exact .inl h
theorem op_value {o : Oper} {a : Act} {w w' : World} {v : Value} {next : Act → World → Prop} {Q : Exit → Act → World → Prop} (h : (execOp a.eval o).run P w = .ok (.value v) w') (hn : next (a.put o.dst v) w') : o.wp P a w next Q := by
 unfold Oper.wp
 rw [h]
 exact hn
theorem FrRel.skip {E : Env} {fr : Fr} {a : Act} (hf : FrRel E N fr a) {d : Nat} {x : Value} (hj : fr.get d = .junk) : FrRel E N fr (a.put (some d) x) := by
 refine ⟨by simp [Act.put, hf.size], fun t => ?_⟩
 by_cases ht : d = t
 · subst ht; rw [hj]; exact .junk _
 · have : (a.put (some d) x).tmps.getD t undef = a.tmps.getD t undef := by
    simp only [Act.put, Array.getD_eq_getD_getElem?]
    rw [Array.getElem?_setIfInBounds_ne ht]
   rw [this]
   exact hf.rel t
theorem FrRel.cutL {E : Env} {fr : Fr} {a : Act} (hf : FrRel E N fr a) (ks : List Nat) : FrRel E N (fr.cutL ks) a := by
 refine ⟨hf.size, fun t => ?_⟩
 rw [Fr.get_cutL]
 split
 · exact .junk _
 · exact hf.rel t
theorem run_range_op {o : Oper} {a : Act} {w : World} {t k e : TypeId} {x : Operand} {bm : Nat} {es : Array MapEntry} {clock : Nat} (ho : o.op = .range t x) (ht : P.underlying t = some (.map k e)) (hx : a.eval x = .map (some bm)) (hb : w.heap[bm]? = some (.map es clock)) :
 (execOp a.eval o).run P w = .ok (.value (.pointer (some ⟨w.heap.size, 0, none⟩))) (w.alloc (.mapIter (some bm) clock #[] clock)) := by
 simp [execOp, ho, hx, run_range_map w t k e bm es clock ht hb, Result.andThen]
theorem run_next_op {o : Oper} {a : Act} {w w' : World} {x : Operand} {it v : Value} (ho : o.op = .next x false) (hx : a.eval x = it) (hr : (Instr.next it false o.type).run P w = .ok v w') : (execOp a.eval o).run P w = .ok (.value v) w' := by
 simp [execOp, ho, hx, hr, Result.andThen]
theorem run_entry_op {o : Oper} {a : Act} {w w' : World} {x : Operand} {it v : Value} (ho : o.op = .entry x) (hx : a.eval x = it) (hr : (Instr.entry it).run P w = .ok v w') : (execOp a.eval o).run P w = .ok (.value v) w' := by
 simp [execOp, ho, hx, hr, Result.andThen]
theorem run_ext0_op {o : Oper} {a : Act} {w : World} {x : Operand} {vs : Array Value} {v : Value} (ho : o.op = .extract x 0) (hx : a.eval x = .tuple vs) (hv : vs[0]? = some v) : (execOp a.eval o).run P w = .ok (.value v) w := by
 simp [execOp, ho, hx, Instr.extract, hv]
theorem okX_t {x : Operand} {n : Nat} (h : okX x (.t n) = true) : x = .tmp n := by
 cases x <;> simp [okX] at h
 exact congrArg _ h
variable {E0 : Env} {st0 : St} {w0 : World}
def roundQ (P : Program) (N : Nat) (E0 : Env) (st0 : St) (w0 : World) (c : Code) (Q : Ex → Fr → St → Prop) : Exit → Act → World → Prop
 | .normal, a, w => InLoop P c (Post N E0 st0 w0 Q) a w
 | e, a, w => Post N E0 st0 w0 Q e a w
theorem InLoop.next {c : Code} {Q : Ex → Fr → St → Prop} {a : Act} {w : World} (h : c.wp P (roundQ P N E0 st0 w0 c Q) a w) : InLoop P c (Post N E0 st0 w0 Q) a w := by
 intro b k cs
 obtain ⟨e, a₁, w₁, hq, harr⟩ := h b (.inLoop c :: k) cs
 cases e with
 | normal =>
   obtain ⟨e₂, a₂, w₂, hq₂, harr₂⟩ := hq b k cs
   exact ⟨e₂, a₂, w₂, hq₂, .of_steps (Steps.trans harr (.one step_inLoop)) harr₂⟩
 | exit id => exact ⟨.exit id, a₁, w₁, hq, .pass (x := .inLoop c) rfl (fun _ _ => .inl (by simp)) harr⟩
 | ret => exact ⟨.ret, a₁, w₁, hq, .pass (x := .inLoop c) rfl (fun _ _ => .inl (by simp)) harr⟩
 | goto l => exact hq.elim
 | panic ch => exact hq.elim
 | outgrown => exact hq.elim
theorem round_ok {n : RNode} {o2 o3 : Array Oper} {cx : Operand} {sk body : Code} {id2 id3 : Nat} {c : Code} (k2 : okNext N o2 n.it n.nx n.tx = true) (k3 : okX cx (.t n.tx) = true) (k4 : okC P N sk .skip = true) (k5 : okEnt P N o3 n.it n.en n.post = true) (k6 : okC P N body n.body = true)
 (Q : Ex → Fr → St → Prop) {mk itk : Key} {kd : Option IntKind} {es : List (V × V)} {ents : Array MapEntry} {clock r : Nat} (hr0 : w0.heap.size ≤ r) {o : Obj} (ho : o = .mp kd es)
 {left : List (V × V)} {fr : Fr} {st : St} {E : Env} {w : World} {a : Act} {seen : Array Nat} (hleft : left = leftL es ents seen) (ht : Trk mk itk kd es ents clock r E st w seen) (hs : Sim E st w) (he : Ext E0 st0 w0 E (st.ins mk o) w) (hf : FrRel E N fr a) (hd : a.defers = [])
 (hx : rndX (ACall P) n mk itk o Q (fun left fr st => ∀ (E : Env) (w : World) (a : Act) (seen : Array Nat), left = leftL es ents seen → Trk mk itk kd es ents clock r E st w seen → Sim E st w → Ext E0 st0 w0 E (st.ins mk o) w → FrRel E N fr a → a.defers = [] → InLoop P c (Post N E0 st0 w0 (blkK n.b0 Q)) a w) left fr st) :
 (Code.seq (.region id2 o2 false) (.seq (.cond cx sk (.exit n.b0)) (.block n.b1 (.seq (.region id3 o3 false) body)))).wp P (roundQ P N E0 st0 w0 c (blkK n.b0 Q)) a w := by
 obtain ⟨hit, hnil, hcons⟩ := hx
 have hbm := ht.bm
 have hit2 := ht.it
 have hmne : (E.μ mk).blk ≠ r := fun e => by rw [e, hit2] at hbm; cases hbm
 have leave : ∀ (e : Ex) (E' : Env) (fr' : Fr) (st' : St) (w' : World) (a' : Act) (seen' : Array Nat), Trk mk itk kd es ents clock r E' st' w' seen' → Sim E' st' w' → Ext E0 st0 w0 E' (st'.ins mk o) w' → FrRel E' N fr' a' → a'.defers = [] → backK mk o Q e fr' st' →
  Held N E0 st0 w0 (Q e) a' w' := by
  rintro e E' fr' st' w' a' seen' t1 s1 x1 f1 d1 ⟨st2, hsame, hq⟩
  exact ⟨fr', st2, E', hq, (by rw [ho] at hsame; exact (t1.back s1).same hsame), x1.same_r hsame, f1, d1⟩
 unfold okNext at k2
 split at k2
 case h_2 => cases k2
 rename_i oN oX hol
 simp only [Bool.and_eq_true, decide_eq_true_eq] at k2
 obtain ⟨⟨⟨⟨⟨⟨⟨⟨⟨g1, g2⟩, d1⟩, d2⟩, n1⟩, n2⟩, ne1⟩, ne2⟩, p1⟩, p2⟩ := k2
 split at p1
 case h_2 => cases p1
 rename_i xN hoN
 split at p2
 case h_2 => cases p2
 rename_i xX hoX
 have e1 := okX_t p1
 have e2 := okX_t p2
 have e3 := okX_t k3
 subst e1 e2 e3
 have hsz : o2.size = 2 := by rw [← Array.length_toList, hol]; rfl
 have hg0 : o2[0]? = some oN := by rw [← Array.getElem?_toList, hol]; rfl
 have hg1 : o2[1]? = some oX := by rw [← Array.getElem?_toList, hol]; rfl
 have hia : a.eval (.tmp n.it) = .pointer (some ⟨r, 0, none⟩) := by
  have h := hf.rel n.it
  rw [hit] at h
  show a.tmps.getD n.it undef = _
  generalize a.tmps.getD n.it undef = y at h
  cases h with
  | deep hd => cases hd
  | p _ _ hk => rw [ht.ei]
 refine wp_seq (wp_region ?_)
 rw [hsz]
 show wpOps P o2 _ [0, 1] a w
 refine wp_op hg0 g1 ?_
 -- what the two operations leave in the frame
 have fr2 : ∀ (x y : Value) (ks : List Nat), memNat n.nx ks = true → memNat n.tx ks = true → FrRel E N (fr.cutL ks) ((a.put (some n.nx) x).put (some n.tx) y) := fun x y ks h1 h2 =>
  ((hf.cutL ks).skip (by rw [Fr.get_cutL, h1]; rfl)).skip (by rw [Fr.get_cutL, h2]; rfl)
 have hev : ∀ (x y : Value), ((a.put (some n.nx) x).put (some n.tx) y).eval (.tmp n.tx) = y := fun x y => by
  show (((a.put (some n.nx) x).put (some n.tx) y).tmps.getD n.tx undef) = y
  have : n.tx < (a.put (some n.nx) x).tmps.size := by simp [Act.put, hf.size, n2]
  simp only [Act.put, Array.getD_eq_getD_getElem?] at this ⊢
  rw [Array.getElem?_setIfInBounds_self_of_lt this]
  rfl
 have hevN : ∀ (x : Value), (a.put (some n.nx) x).eval (.tmp n.nx) = x := fun x => by
  show ((a.put (some n.nx) x).tmps.getD n.nx undef) = x
  have : n.nx < a.tmps.size := by rw [hf.size]; exact n1
  simp only [Act.put, Array.getD_eq_getD_getElem?]
  rw [Array.getElem?_setIfInBounds_self_of_lt this]
  rfl
 rcases run_next_at (P := P) w oN.type r (E.μ mk).blk clock clock seen ents clock hit2 hbm ht.bo.1 (Nat.le_refl _) with ⟨h0, hrun⟩ | ⟨e, hel, w1, hw1, hrun⟩
 · refine op_value (run_next_op hoN hia hrun) ?_
   rw [d1]
   refine wp_op hg1 g2 (op_value (v := .bool false) (run_ext0_op hoX (hevN _) rfl) ?_)
   rw [d2]
   show Code.wp P _ _ _ _
   refine wp_seq (wp_cond_false (hev _ _) (wp_exit ?_))
   have hn := hnil (by rw [hleft]; exact leftL_nil h0)
   rw [Fr.cut_eq] at hn
   have := leave .normal E _ st w _ seen ht hs he (fr2 (.tuple #[.bool false]) (.bool false) [n.nx, n.tx] (memNat_iff.2 (by simp)) (memNat_iff.2 (by simp))) (by rw [put_defers, put_defers]; exact hd) hn
   show Held N E0 st0 w0 (blkK n.b0 Q (.exit n.b0)) _ w
   have eb : blkK n.b0 Q (.exit n.b0) = Q .normal := by funext fr st; simp [blkK]
   rw [eb]
   exact this
 · obtain ⟨L1, x, L2, j, hl1, hl2, hej, hentj⟩ := leftL_next (es := es) ht.bo ht.sz hel
   obtain ⟨wn, hwn⟩ : ∃ wn, wn = setBlock w1 r (.mapIter (some (E.μ mk).blk) clock (seen.push e.born) clock) := ⟨_, rfl⟩
   rw [← hwn] at hrun
   have hh1 : w1.heap = w.heap ∧ w1.os = w.os ∧ w1.output = w.output ∧ w1.tape = w.tape := by rcases hw1 with rfl | rfl <;> exact ⟨rfl, rfl, rfl, rfl⟩
   have hrlt : r < w.heap.size := (Array.getElem?_eq_some_iff.1 hit2).1
   have hoth : ∀ b, b ≠ r → wn.heap[b]? = w.heap[b]? := fun b hb => by
    rw [hwn]
    show (w1.heap.setIfInBounds r _)[b]? = _
    rw [Array.getElem?_setIfInBounds_ne (Ne.symm hb), hh1.1]
   have hat : wn.heap[r]? = some (.mapIter (some (E.μ mk).blk) clock (seen.push e.born) clock) := by
    rw [hwn]
    show (w1.heap.setIfInBounds r _)[r]? = _
    rw [Array.getElem?_setIfInBounds_self_of_lt (by rw [hh1.1]; exact hrlt)]
   have hIr : ∀ j, E.I r j = none := fun j => by
    cases hx : E.I r j with
    | none => rfl
    | some y =>
      have := hs.imm r j y hx
      simp [cellIn, hit2] at this
   have hsn : Sim E st wn := hs.turn hoth (fun k hk => (ht.apart k hk).2) hIr
   have htn : Trk mk itk kd es ents clock r E st wn (seen.push e.born) := ⟨ht.hm, ht.hi, ht.ei, by rw [hoth _ hmne]; exact hbm, hat, ht.bo, ht.sz, ht.rel, ht.apart, ht.own⟩
   have hsize : wn.heap.size = w.heap.size := by
    rw [hwn]
    show (w1.heap.setIfInBounds r _).size = _
    rw [Array.size_setIfInBounds, hh1.1]
   have hen : Ext E0 st0 w0 E (st.ins mk o) wn := ⟨he.le, by rw [hsize]; exact he.size, he.immNew, he.keyOld, he.keyNew, fun b hb hk => by rw [hoth b (by omega)]; exact he.same b hb hk,
    by rw [hwn]; exact hh1.2.1.trans he.os, by rw [hwn]; exact hh1.2.2.1.trans he.out, by rw [hwn]; exact hh1.2.2.2.trans he.tape⟩
   refine op_value (run_next_op hoN hia hrun) ?_
   rw [d1]
   refine wp_op hg1 g2 (op_value (v := .bool true) (run_ext0_op hoX (hevN _) rfl) ?_)
   rw [d2]
   show Code.wp P _ _ _ _
   refine wp_seq (wp_cond_true (hev _ _) ?_)
   have hskip : ∀ {Q' : Exit → Act → World → Prop} {a' : Act} {w' : World}, Q' .normal a' w' → sk.wp P Q' a' w' := by
    intro Q' a' w' h
    cases sk <;> simp [okC] at k4
    · exact wp_skip h
    · exact wp_label h
   refine hskip ?_
   show Code.wp P _ _ _ _
   obtain ⟨a2, ha2⟩ : ∃ a2, a2 = (a.put (some n.nx) (.tuple #[.bool true, e.key, e.val])).put (some n.tx) (.bool true) := ⟨_, rfl⟩
   rw [← ha2]
   have hf2 : FrRel E N (fr.cutL [n.nx, n.tx, n.en]) a2 := by rw [ha2]; exact fr2 _ _ _ (memNat_iff.2 (by simp)) (memNat_iff.2 (by simp))
   have hd2 : a2.defers = [] := by rw [ha2, put_defers, put_defers]; exact hd
   have hia2 : a2.eval (.tmp n.it) = .pointer (some ⟨r, 0, none⟩) := by
    rw [ha2]
    have h0 : a.tmps.getD n.it undef = _ := hia
    show (((a.put (some n.nx) _).put (some n.tx) _).tmps.getD n.it undef) = _
    simp only [Act.put, Array.getD_eq_getD_getElem?] at h0 ⊢
    rw [Array.getElem?_setIfInBounds_ne ne2, Array.getElem?_setIfInBounds_ne ne1]
    exact h0
   unfold okEnt at k5
   split at k5
   case h_2 => cases k5
   rename_i oE lE hol3
   simp only [Bool.and_eq_true, decide_eq_true_eq] at k5
   obtain ⟨⟨⟨⟨g3, d3⟩, n3⟩, p3⟩, kpost⟩ := k5
   split at p3
   case h_2 => cases p3
   rename_i xE hoE
   have e3 := okX_t p3
   subst e3
   have hg30 : o3[0]? = some oE := by rw [← Array.getElem?_toList, hol3]; rfl
   have hg31 : ∀ k o, lE[k]? = some o → o3[1 + k]? = some o := fun k o h => by rw [← Array.getElem?_toList, hol3, Nat.add_comm]; exact h
   have hsz3 : List.range o3.size = 0 :: List.range' 1 lE.length := by
    have : o3.size = lE.length + 1 := by rw [← Array.length_toList, hol3]; rfl
    rw [this, List.range_eq_range', List.range'_succ]
   have hentry : (Instr.entry (.pointer (some ⟨r, 0, none⟩))).run P wn = .ok (.tuple #[e.key, e.val]) wn :=
    run_entry_at wn r (E.μ mk).blk clock seen ents clock e hat (by rw [hoth _ hmne]; exact hbm) (Array.mem_toList_iff.2 (Array.mem_of_getElem? hentj)) ht.bo.2
   refine wp_block (wp_seq (wp_region ?_))
   rw [hsz3]
   refine wp_op hg30 g3 (op_value (run_entry_op hoE hia2 hentry) ?_)
   rw [d3]
   obtain ⟨r1, r2, r3⟩ := ht.rel j x e hej hentj
   have hrt : Rel E (.tup [x.1, x.2]) (.tuple #[e.key, e.val]) := by
    refine .tup _ _ rfl fun i v y hv hy => ?_
    match i with
    | 0 => simp at hv hy; subst hv; subst hy; exact .deep r1
    | 1 => simp at hv hy; subst hv; subst hy; exact r3.mono (E.at_le mk)
    | i + 2 => simp at hv
   have hf3 : FrRel E N ((n.en, .tup [x.1, x.2]) :: fr.cutL [n.nx, n.tx, n.en]) (a2.put (some n.en) (.tuple #[e.key, e.val])) :=
    FrRel.next hf2 (dst := some n.en) (fun d h => by cases h; exact n3) hrt []
   have hb := hcons L1 x L2 (hleft.trans hl1)
   rw [Fr.cut_eq] at hb
   obtain ⟨Qr, hQr⟩ : ∃ Qr, Qr = rndK n.b0 n.b1 (fun fr st => ∀ (E : Env) (w : World) (a : Act) (seen : Array Nat), L1 ++ L2 = leftL es ents seen → Trk mk itk kd es ents clock r E st w seen → Sim E st w → Ext E0 st0 w0 E (st.ins mk o) w → FrRel E N fr a → a.defers = [] → InLoop P c (Post N E0 st0 w0 (blkK n.b0 Q)) a w) mk o Q := ⟨_, rfl⟩
   have hb : (runOpsV n.post ((n.en, .tup [x.1, x.2]) :: fr.cutL [n.nx, n.tx, n.en]) st).sv (ACall P) (regK (seqK (spV (ACall P) n.body Qr) Qr)) := by rw [hQr]; exact hb
   rw [T.sv_eq] at hb
   have hb := runOpsV_wp (ACall.mono P) n.post _ st _ (T.sp_wp (ACall.mono P) _ _ hb)
   refine ops_ok n.post lE 1 kpost hg31 hsn hf3 hb ?_
   intro fr4 st4 E4 a4 w4 h4 s4 x4 f4 df4
   show Code.wp P _ _ _ _
   have h4 : spV (ACall P) n.body Qr fr4 st4 := h4
   refine wp_mono (code_ok (E0 := E) (st0 := st) (w0 := wn) n.body body k6 Qr s4 x4 f4 (df4.trans (by rw [put_defers]; exact hd2)) (spV_wp (ACall.mono P) _ _ _ _ _ h4 fun _ _ _ h => h)) ?_
   intro e' a5 w5 h5
   -- a round more
   have more : ∀ fr5 st5 E5, (∀ (E : Env) (w : World) (a : Act) (seen : Array Nat), L1 ++ L2 = leftL es ents seen → Trk mk itk kd es ents clock r E st5 w seen → Sim E st5 w → Ext E0 st0 w0 E (st5.ins mk o) w → FrRel E N fr5 a → a.defers = [] → InLoop P c (Post N E0 st0 w0 (blkK n.b0 Q)) a w) →
    Sim E5 st5 w5 → Ext E st wn E5 st5 w5 → FrRel E5 N fr5 a5 → a5.defers = [] → InLoop P c (Post N E0 st0 w0 (blkK n.b0 Q)) a5 w5 := fun fr5 st5 E5 hR s5 x5 f5 d5 =>
    hR E5 w5 a5 (seen.push e.born) hl2.symm (htn.step x5) s5 (hen.trans (x5.ins o ht.hm)) f5 d5
   cases e' with
   | normal =>
     obtain ⟨fr5, st5, E5, hq, s5, x5, f5, d5⟩ := h5
     rw [hQr] at hq
     exact more fr5 st5 E5 hq s5 x5 f5 d5
   | exit id =>
     obtain ⟨fr5, st5, E5, hq, s5, x5, f5, d5⟩ := h5
     rw [hQr] at hq
     simp only [rndK] at hq
     simp only [Exit.inBlock]
     split
     · rename_i hid
       rw [if_pos hid] at hq
       exact more fr5 st5 E5 hq s5 x5 f5 d5
     · rename_i hid
       rw [if_neg hid] at hq
       show Held N E0 st0 w0 (blkK n.b0 Q (.exit id)) a5 w5
       split at hq
       · rename_i hid0
         have eb : blkK n.b0 Q (.exit id) = Q .normal := by funext fr st; simp [blkK, hid0]
         rw [eb]
         exact leave _ _ _ _ _ _ _ (htn.step x5) s5 (hen.trans (x5.ins o ht.hm)) f5 d5 hq
       · rename_i hid0
         have eb : blkK n.b0 Q (.exit id) = Q (.exit id) := by funext fr st; simp [blkK, hid0]
         rw [eb]
         exact leave _ _ _ _ _ _ _ (htn.step x5) s5 (hen.trans (x5.ins o ht.hm)) f5 d5 hq
   | ret =>
     obtain ⟨fr5, st5, E5, hq, s5, x5, f5, d5⟩ := h5
     rw [hQr] at hq
     exact leave .ret _ _ _ _ _ _ (htn.step x5) s5 (hen.trans (x5.ins o ht.hm)) f5 d5 hq
   | goto l => exact h5.elim
   | panic ch => exact h5.elim
   | outgrown => exact h5.elim
theorem rng_ok {c : Code} {n : RNode} (hk : okRng P N c n = true) (Q : Ex → Fr → St → Prop) {fr : Fr} {st : St} {E : Env} {w : World} {a : Act} (hs : Sim E st w) (he : Ext E0 st0 w0 E st w) (hf : FrRel E N fr a) (hd : a.defers = [])
 (hw : spN (ACall P) n Q fr st) : c.wp P (Post N E0 st0 w0 Q) a w := by
 unfold okRng at hk
 split at hk
 case h_2 => cases hk
 rename_i id1 o1 d1 i0 id2 o2 d2 cx sk i0' i1 id3 o3 d3 body
 simp only [Bool.and_eq_true, decide_eq_true_eq, Bool.not_eq_true'] at hk
 obtain ⟨⟨⟨⟨⟨⟨⟨⟨⟨⟨⟨rfl, rfl⟩, rfl⟩, rfl⟩, rfl⟩, rfl⟩, k1⟩, k2⟩, k3⟩, k4⟩, k5⟩, k6⟩ := hk
 obtain ⟨l', oR, tR, xR, kt, et, hl, hreg, hgR, hdR, hitN, hoR, hxR, hu⟩ := okPre_split k1
 refine wp_seq (wp_region ?_)
 have hrange : List.range o1.size = List.range' 0 l'.length ++ [l'.length] := by
  have : o1.size = l'.length + 1 := by rw [← Array.length_toList, hl]; simp
  rw [this, List.range_eq_range', List.range'_concat]; simp
 rw [hrange]
 have hget : ∀ j o, l'[j]? = some o → o1[0 + j]? = some o := fun j o h => by
  have hj : j < l'.length := (List.getElem?_eq_some_iff.1 h).1
  rw [Nat.zero_add, ← Array.getElem?_toList, hl, List.getElem?_append_left hj]; exact h
 have hlast : o1[l'.length]? = some oR := by rw [← Array.getElem?_toList, hl]; simp
 unfold spN at hw
 rw [T.sv_eq] at hw
 have hw := runOpsV_wp (ACall.mono P) n.pre fr st _ (T.sp_wp (ACall.mono P) _ _ hw)
 refine ops_then [l'.length] n.pre l' 0 hreg hget hs hf hw ?_
 clear hw hs hf
 intro fr1 st1 E1 a1 w1 hw hs he1 hf hd1
 have hd1 : a1.defers = [] := hd1.trans hd
 have he1 := he.trans he1
 dsimp only at hw
 split at hw
 case h_2 => exact hw.elim
 rename_i mk hmk
 obtain ⟨o, hmo, hw⟩ := hw.h
 split at hw
 case h_2 => exact hw.elim
 rename_i kd es
 refine wp_op hlast hgR ?_
 have hrm := okX_rel hxR hf
 rw [hmk] at hrm
 obtain ⟨bmE, hEm, hbm⟩ : ∃ b, (E1.μ mk).blk = b ∧ a1.eval xR = .map (some b) := by
  generalize hv : a1.eval xR = v at hrm
  cases hrm with
  | deep hd => cases hd
  | m _ hk => exact ⟨_, rfl, rfl⟩
 have hlive : st1.live mk := ⟨_, hmo⟩
 have hhas := hs.dom mk hlive
 obtain ⟨ents, clock, hb1, hb2, hb3, hb4⟩ := hs.obj mk _ hmo
 rw [hEm] at hb1
 refine op_value (run_range_op hoR hu hbm hb1) ?_
 rw [hdR]
 -- the world with the iterator
 obtain ⟨w2, hw2⟩ : ∃ w2, w2 = w1.alloc (.mapIter (some bmE) clock #[] clock) := ⟨_, rfl⟩
 have hh2 : w2.heap = w1.heap.push (.mapIter (some bmE) clock #[] clock) := by rw [hw2]; rfl
 rw [← hw2]
 obtain ⟨r, hr⟩ : ∃ r, r = w1.heap.size := ⟨_, rfl⟩
 rw [← hr]
 have hs2 := hs.aside hh2
 have he2 := he1.aside hs hh2 (by rw [hw2]; rfl) (by rw [hw2]; rfl) (by rw [hw2]; rfl)
 have hle2 := E1.aside_le w1.heap.size
 rw [← hr] at hs2 he2 hle2
 obtain ⟨itk, hitk⟩ : ∃ itk, itk = Key.l st1.l.next := ⟨_, rfl⟩
 have hnk : itk = E1.newKey false := by rw [hitk, hs.nl]; rfl
 have hits : (E1.aside r).has itk := by rw [hnk]; exact Env.push_has_new _ _ _ _
 have hitm : (E1.aside r).μ itk = ⟨r, 0, 0⟩ := by rw [hnk]; exact Env.push_new _ _ _ _
 have hold : ∀ b, b < r → w2.heap[b]? = w1.heap[b]? := fun b hb => by rw [hh2, Array.getElem?_push, if_neg (by omega)]
 have hblt : bmE < r := by rw [hr]; exact (Array.getElem?_eq_some_iff.1 hb1).1
 have hmu : (E1.aside r).μ mk = E1.μ mk := Env.aside_mu hhas
 have hlb : ∀ k, ((st1.remove mk).bump).live k → k ≠ mk ∧ st1.live k := by
  intro k hk
  obtain ⟨x, hx⟩ := St.live_bump.1 hk
  rw [St.get_remove] at hx
  split at hx
  · cases hx
  · exact ⟨‹_›, x, hx⟩
 have hrem : (st1.remove mk).bump = st1.bump.remove mk := by cases mk <;> rfl
 have trk : Trk mk itk kd es ents clock r (E1.aside r) (st1.remove mk).bump w2 #[] := by
  refine ⟨hle2.has hhas, hits, hitm, ?_, ?_, hb4, hb2, fun j q e h1 h2 => ?_, fun k hk => ?_, fun j h1 h2 => ?_⟩
  · rw [hmu, hEm, hold _ hblt]; exact hb1
  · rw [hmu, hEm, hh2, hr]; simp
  · obtain ⟨x, y, z⟩ := hb3 j q e h1 h2
    have x : RelD E1.I q.1 e.key := by cases mk <;> exact x
    exact ⟨x.mono hle2.imm, y, z.mono (Env.at_mono hle2 mk)⟩
  · obtain ⟨h1, h2⟩ := hlb k hk
    rw [Env.aside_mu (hs.dom k h2), hmu]
    exact ⟨hs.sep k mk h2 hlive h1, by have := hs.lt h2; omega⟩
  · rw [hmu] at h1 h2 ⊢
    rw [Env.aside_I]
    exact hs.own mk hlive j h1 h2
 have hsR : Sim (E1.aside r) (st1.remove mk).bump w2 := by rw [hrem]; exact hs2.less mk
 have heR : Ext E0 st0 w0 (E1.aside r) ((st1.remove mk).bump.ins mk (.mp kd es)) w2 := by
  refine he2.same_r ⟨by cases mk <;> rfl, by cases mk <;> rfl, fun k => ?_⟩
  rw [St.get_ins, St.get_bump, St.get_bump, St.get_remove]
  split
  · rename_i h; subst h; exact hmo.symm
  · rfl
 have hf2 : FrRel (E1.aside r) N ((n.it, .p itk 0) :: fr1) (a1.put (some n.it) (.pointer (some ⟨r, 0, none⟩))) := by
  have hp : Rel (E1.aside r) (.p itk 0) (.pointer (some ⟨r, 0, none⟩)) := by
   have := Rel.p (E := E1.aside r) itk 0 hits
   rw [hitm] at this
   simpa using this
  exact FrRel.next (hf.mono hle2) (dst := some n.it) (fun d h => by cases h; exact hitN) hp []
 have hr0 : w0.heap.size ≤ r := by rw [hr]; exact he1.size
 rw [← hitk] at hw
 show Code.wp P _ _ _ _
 refine wp_block ?_
 have hbl : ∀ e a' w', Post N E0 st0 w0 (blkK n.b0 Q) e a' w' → Exit.inBlock n.b0 (Post N E0 st0 w0 Q) e a' w' := by
  intro e a' w' h
  cases e with
  | normal => exact h
  | exit id =>
    obtain ⟨fr', st', E', h1, h2⟩ := h
    simp only [blkK] at h1
    simp only [Exit.inBlock]
    split
    · rename_i hid; rw [if_pos hid] at h1; exact ⟨fr', st', E', h1, h2⟩
    · rename_i hid; rw [if_neg hid] at h1; exact ⟨fr', st', E', h1, h2⟩
  | ret => exact h
  | goto l => exact h
  | panic ch => exact h
  | outgrown => exact h
 refine wp_mono ?_ hbl
 obtain ⟨o, ho⟩ : ∃ o, o = Obj.mp kd es := ⟨_, rfl⟩
 rw [← ho] at hw heR
 have key := hw.h (fun left fr st => ∀ (E : Env) (w : World) (a : Act) (seen : Array Nat), left = leftL es ents seen → Trk mk itk kd es ents clock r E st w seen → Sim E st w → Ext E0 st0 w0 E (st.ins mk o) w → FrRel E N fr a → a.defers = [] →
  InLoop P (Code.seq (.region id2 o2 false) (.seq (.cond cx sk (.exit n.b0)) (.block n.b1 (.seq (.region id3 o3 false) body)))) (Post N E0 st0 w0 (blkK n.b0 Q)) a w)
  fun left fr0 fr st hle hx E w a seen hleft ht hs he hf hd => InLoop.next (round_ok k2 k3 k4 k5 k6 Q hr0 ho hleft ht hs he (hf.le hle) hd hx)
 exact (key (E1.aside r) w2 _ #[] (leftL_all hb2).symm trk hsR heR hf2 (by rw [put_defers]; exact hd1)).loop
theorem rc_ok : ∀ (A : RC) (c : Code), okR P N c A = true → ∀ (Q : Ex → Fr → St → Prop) {fr : Fr} {st : St} {E : Env} {w : World} {a : Act},
 Sim E st w → Ext E0 st0 w0 E st w → FrRel E N fr a → a.defers = [] → spR (ACall P) A Q fr st → c.wp P (Post N E0 st0 w0 Q) a w
 | .ac A, c, hk, Q, fr, st, E, w, a, hs, he, hf, hd, hw => code_ok A c (by cases c <;> exact hk) Q hs he hf hd (spV_wp (ACall.mono P) _ _ _ _ _ hw fun _ _ _ h => h)
 | .rng n, c, hk, Q, fr, st, E, w, a, hs, he, hf, hd, hw => rng_ok (by cases c <;> exact hk) Q hs he hf hd hw
 | .seq A B, c, hk, Q, fr, st, E, w, a, hs, he, hf, hd, hw => by
   cases c <;> simp [okR] at hk
   rename_i x y
   refine wp_seq ?_
   refine wp_mono (rc_ok A x hk.1 _ hs he hf hd hw) ?_
   intro e a' w' h
   cases e with
   | normal =>
     obtain ⟨fr', st', E', h1, h2, h3, h4, h5⟩ := h
     exact rc_ok B y hk.2 Q h2 h3 h4 h5 h1
   | exit id => exact h
   | ret => exact h
   | goto l => exact h
   | panic ch => exact h
   | outgrown => exact h
theorem fn_rv {f : Nat} {F : RFn} (hk : okRFn P f F = true) {args : List V} (hn : args.length = F.nparams) {h : Heap} {K : V → Heap → Prop}
 (hw : (paramFrame 0 args).fS fun fr => spR (ACall P) F.body (retK F.results K) fr (gst h)) : ACall P f args h K := by
 rw [Fr.fS_eq] at hw
 unfold okRFn at hk
 split at hk
 case h_2 => cases hk
 rename_i fn hfn
 split at hk
 case h_2 => cases hk
 rename_i c hb
 simp only [Bool.and_eq_true, decide_eq_true_eq] at hk
 obtain ⟨⟨⟨k1, k2⟩, k3⟩, k4⟩ := hk
 exact fn_by hfn hb k1 k3 k4 hn fun E w a hs hfr hd => rc_ok (E0 := E) (st0 := gst h) (w0 := w) F.body c k2 _ hs (.refl _ _ _) hfr hd hw
end
end Go.Eng
/-
Functions that are lent one row of rows: what they promise from a heap of that row alone holds in every heap that has it.
-/
namespace Go.Eng
open Go
theorem made1_back {E F : Env} {n : Nat} (hI : ImmLe F.I E.I) (hn : E.has (.g 0)) (hμ : E.μ (.g 0) = F.μ (.g n)) {v : V} {x : Value} (hv : v.made1 = true) (hr : Rel F (v.up1 n) x) : Rel E v x := by
 unfold V.made1 at hv
 split at hv
 · simp only [V.up1] at hr
   cases hr with
   | deep hd => cases hd
   | ms _ _ _ _ a cap hk hc hf hb ha =>
     exact .ms _ _ _ _ _ _ hn hc (by rw [hμ]; exact hf) (by rw [hμ]; exact hb) (by rw [hμ]; exact ha)
 · rename_i h
   have : v.up1 n = v := by
    unfold V.up1
    split
    · exact absurd rfl (h _ _ _)
    · rfl
   rw [this] at hr
   exact flat_rel hI hv hr
theorem madeV_back {E F : Env} {n : Nat} (hI : ImmLe F.I E.I) (hn : E.has (.g 0)) (hμ : E.μ (.g 0) = F.μ (.g n)) {v : V} {x : Value} (hv : v.made = true) (hr : Rel F (v.up n) x) : Rel E v x := by
 unfold V.made at hv
 split at hv
 · rename_i cs
   simp only [List.all_eq_true] at hv
   simp only [V.up] at hr
   cases hr with
   | deep hd => cases hd
   | agg _ a ha h1 hra =>
     refine .agg _ _ (by simpa using ha) h1 fun j v x hj hx => ?_
     exact made1_back hI hn hμ (hv v (List.mem_of_getElem? hj)) (hra j (v.up1 n) x (by rw [List.getElem?_map, hj]; rfl) hx)
 · rename_i h
   have : v.up n = v.up1 n := by
    unfold V.up
    split
    · exact absurd rfl (h _)
    · rfl
   rw [this] at hr
   exact made1_back hI hn hμ hv hr
theorem holds_flat {E F : Env} (hI : ImmLe E.I F.I) {w : World} {L : Loc} {sz : Nat} {es : List (List V)} (hf : ∀ e ∈ es, e.all V.flat = true) (h : Holds E w L (.arr sz es)) : Holds F w L (.arr sz es) := by
 obtain ⟨hl, cells, t, fz, r1, r2, r3, r4, r5⟩ := h
 refine ⟨hl, cells, t, fz, r1, r2, r3, r4, fun j v hj => ?_⟩
 obtain ⟨x, hx, hrx, h1⟩ := r5 j v hj
 refine ⟨x, hx, flat_rel hI ?_ hrx, h1⟩
 have hm := List.mem_of_getElem? hj
 obtain ⟨l, hl1, hl2⟩ := List.mem_flatten.1 hm
 exact List.all_eq_true.1 (hf l hl1) v hl2
theorem oneG_get {sz : Nat} {es : List (List V)} {k : Key} {o : Obj} (h : (gst (oneG sz es)).get k = some o) : k = .g 0 ∧ o = .arr sz es := by
 cases k with
 | g n =>
   by_cases hn : n = 0
   · subst hn; cases h; exact ⟨rfl, rfl⟩
   · exfalso
     have : (oneG sz es).get n = some o := h
     simp [oneG, Heap.get, Heap.find, Ne.symm hn] at this
 | l n => simp [St.get, noL, Heap.get, Heap.find] at h
def LentAt (sz : Nat) (Q : V → List (List V) → Prop) (v : V) (h' : Heap) : Prop :=
 ∃ u es, TelN 1 [(0, v)] (gst h') [(0, u)] (gst (oneG sz es)) ∧ u.made = true ∧ (∀ e ∈ es, e.all V.flat = true) ∧ Q u es
theorem LentAt.of {Q : V → List (List V) → Prop} {v u : V} {sz : Nat} {es : List (List V)} {h' : Heap} (ht : TelN 1 [(0, v)] (gst h') [(0, u)] ⟨⟨1, [(0, .arr sz es)]⟩, ⟨0, []⟩⟩) (hu : u.made = true) (hf : ∀ e ∈ es, e.all V.flat = true) (hq : Q u es) : LentAt sz Q v h' := ⟨u, es, ht, hu, hf, hq⟩
theorem ACall.lent {P : Program} {f : Nat} {args : List V} {sz : Nat} {es0 : List (List V)} {Q : V → List (List V) → Prop} (h0 : ACall P f args (oneG sz es0) (LentAt sz Q)) (ha : args.all V.made = true) (hf0 : ∀ e ∈ es0, e.all V.flat = true)
 {h : Heap} {k : Nat} (hk : h.get k = some (.arr sz es0)) {K : V → Heap → Prop} (hK : ∀ u es, Q u es → K (u.up k) (h.set k (.arr sz es))) : ACall P f (args.map (V.up k)) h K := by
 refine ⟨h0.1, fun E w vs hnl hs hv => ?_⟩
 simp only [List.all_eq_true] at ha
 have hob : (gst h).get (.g k) = some (.arr sz es0) := hk
 have hlk : (gst h).live (.g k) := ⟨_, hob⟩
 let E0 : Env := { I := E.I, μ := fun _ => E.μ (.g k), ng := 1, nl := 0 }
 have hl0 : ∀ k0, (gst (oneG sz es0)).live k0 → k0 = .g 0 := fun k0 ⟨o, ho⟩ => (oneG_get ho).1
 have hs0 : Sim E0 (gst (oneG sz es0)) w := by
  refine ⟨rfl, rfl, fun k0 h1 => ?_, hs.imm, fun k0 o ho => ?_, fun k0 k1 h1 h2 hne => ?_, fun k0 h1 j h2 h3 => ?_⟩
  · rw [hl0 k0 h1]; exact Nat.zero_lt_one
  · obtain ⟨rfl, rfl⟩ := oneG_get ho
    exact holds_flat (E := E.at (.g k)) (F := E0.at (.g 0)) (fun b o x h => h) hf0 (hs.obj _ _ hob)
  · exact absurd ((hl0 k0 h1).trans (hl0 k1 h2).symm) hne
  · exact hs.own _ hlk j h2 h3
 have hv0 : RelL E0 args vs := by
  refine ⟨by simpa using hv.1, fun j v x hj hx => ?_⟩
  exact madeV_back (E := E0) (F := E) (n := k) (fun b o x h => h) Nat.zero_lt_one rfl (ha v (List.mem_of_getElem? hj)) (hv.2 j (v.up k) x (by rw [List.getElem?_map, hj]; rfl) hx)
 refine (h0.2 E0 w vs rfl hs0 hv0).mono ?_
 rintro e w' ⟨v, x, h', E1, ⟨u, es, ht, hmade, hflat, hq⟩, rfl, hn, hs1, he1, hr1⟩
 obtain ⟨E', hs', he, hr'⟩ := ht.ok rfl rfl hs1 he1
 have hr : Rel E' u x := hr' 0 x hr1
 have himm : ImmLe E.I E'.I := he.le.imm
 have hloc : E'.μ (.g 0) = E.μ (.g k) := he.le.loc (.g 0) Nat.zero_lt_one
 have hoth : ∀ k', (gst h).live k' → k' ≠ .g k → ∀ k0, (gst (oneG sz es0)).live k0 → (E0.μ k0).blk ≠ (E.μ k').blk := fun k' h1 h2 k0 h3 => hs.sep _ _ hlk h1 (Ne.symm h2)
 have hsame : ∀ k', (gst h).live k' → k' ≠ .g k → w'.heap[(E.μ k').blk]? = w.heap[(E.μ k').blk]? := fun k' h1 h2 => he.same _ (hs.lt h1) (hoth k' h1 h2)
 let G : Env := { I := E'.I, μ := E.μ, ng := E.ng, nl := E.nl }
 have hle : E.Le G := ⟨himm, Nat.le_refl _, Nat.le_refl _, fun _ _ => rfl⟩
 have hget : ∀ k', (gst (h.set k (.arr sz es))).get k' = if k' = .g k then some (.arr sz es) else (gst h).get k' := by
  intro k'
  cases k' with
  | g n =>
    show (h.set k (.arr sz es)).get n = _
    rw [Heap.get_set]
    by_cases e : n = k
    · subst e; simp [hk]
    · rw [if_neg e, if_neg (fun e' => e (by cases e'; rfl))]; rfl
  | l n => simp [St.get]
 have hlive : ∀ k', (gst (h.set k (.arr sz es))).live k' → (gst h).live k' := by
  rintro k' ⟨o, ho⟩
  rw [hget] at ho
  split at ho
  · rename_i e; rw [e]; exact hlk
  · exact ⟨o, ho⟩
 have hob' : (gst (oneG sz es)).get (.g 0) = some (.arr sz es) := rfl
 refine ⟨u.up k, x, h.set k (.arr sz es), G, hK u es hq, rfl, hnl, ⟨hs.ng, hs.nl, fun k' h1 => hs.dom k' (hlive k' h1), hs'.imm, fun k' o h1 => ?_, fun k' k2 h1 h2 hne => hs.sep k' k2 (hlive k' h1) (hlive k2 h2) hne, fun k' h1 j h2 h3 => ?_⟩,
  ⟨hle, he.size, fun b o x hx => ?_, fun k' h1 _ => hlive k' h1, fun k' h1 hn => absurd (hs.dom k' (hlive k' h1)) hn, fun b hb hno => he.same b hb fun k0 h1 => hno (.g k) hlk, he.os, he.out, he.tape⟩,
  madeV_rel (E := E') (F := G) (n := k) (fun b o x h => h) (hs.dom _ hlk) hloc.symm hmade hr⟩
 · rw [hget] at h1
   split at h1
   · rename_i e
     subst e
     cases h1
     have h2 := hs'.obj _ _ hob'
     rw [hloc] at h2
     exact holds_flat (E := E'.at (.g 0)) (F := G.at (.g k)) (fun b o x h => h) hflat h2
   · rename_i hne
     have hlv : (gst h).live k' := ⟨o, h1⟩
     exact (hs.obj k' o h1).keep (Env.at_mono hle k') (hsame k' hlv hne)
 · have h1' := hlive k' h1
   by_cases hkk : k' = .g k
   · subst hkk
     have := hs'.own (.g 0) ⟨_, hob'⟩ j
     rw [hloc] at this
     exact this h2 h3
   · show E'.I (E.μ k').blk j = none
     cases hx : E'.I (E.μ k').blk j with
     | none => rfl
     | some y =>
       rcases he.immNew _ _ _ hx with h4 | h4 | ⟨k0, h4, h5⟩
       · have := hs.own k' h1' j h2 h3
         rw [show E0.I = E.I from rfl, this] at h4
         cases h4
       · have := hs.lt h1'
         omega
       · exact absurd h5 (hoth k' h1' hkk k0 h4)
 · rcases he.immNew b o x hx with h1 | h1 | ⟨k0, h1, h2⟩
   · exact .inl h1
   · exact .inr (.inl h1)
   · exact .inr (.inr ⟨.g k, hlk, h2⟩)
theorem set_get {h : Heap} {r : Nat} {o o' : Obj} (hr : h.get r = some o) (k' : Key) : (gst (h.set r o')).get k' = if k' = .g r then some o' else (gst h).get k' := by
 cases k' with
 | g n =>
   show (h.set r o').get n = _
   rw [Heap.get_set]
   by_cases e : n = r
   · subst e; simp [hr]
   · rw [if_neg e, if_neg (fun e' => e (by cases e'; rfl))]; rfl
 | l n => simp [St.get]
theorem ACall.shrink {P : Program} {f : Nat} {args : List V} {h : Heap} {r sz : Nat} {K : V → Heap → Prop} (h0 : ACall P f args h (fun v h' => ∃ es m, h'.get r = some (.arr sz es) ∧ K v (h'.set r (.arr sz (es.take m))))) : ACall P f args h K := by
 refine ⟨h0.1, fun E w vs hnl hs hv => (h0.2 E w vs hnl hs hv).mono ?_⟩
 rintro e w' ⟨v, x, h', E', ⟨es, m, hr, hk⟩, rfl, hn, hs', he, hrel⟩
 have hob : (gst h').get (.g r) = some (.arr sz es) := hr
 have hget := set_get (o' := .arr sz (es.take m)) hr
 have hlive : ∀ k', (gst (h'.set r (.arr sz (es.take m)))).live k' → (gst h').live k' := by
  rintro k' ⟨o, ho⟩
  rw [hget] at ho
  split at ho
  · rename_i e; rw [e]; exact ⟨_, hob⟩
  · exact ⟨o, ho⟩
 refine ⟨v, x, h'.set r (.arr sz (es.take m)), E', hk, rfl, hn, ⟨hs'.ng, hs'.nl, fun k' h1 => hs'.dom k' (hlive k' h1), hs'.imm, fun k' o h1 => ?_, fun k' k2 h1 h2 hne => hs'.sep k' k2 (hlive k' h1) (hlive k2 h2) hne, fun k' h1 => hs'.own k' (hlive k' h1)⟩,
  ⟨he.le, he.size, he.immNew, fun k' h1 h2 => he.keyOld k' (hlive k' h1) h2, fun k' h1 h2 => he.keyNew k' (hlive k' h1) h2, he.same, he.os, he.out, he.tape⟩, hrel⟩
 rw [hget] at h1
 split at h1
 · rename_i e
   subst e
   cases h1
   obtain ⟨hl, cells, t, fz, r1, r2, r3, r4, r5⟩ := hs'.obj _ _ hob
   have hfl : es.flatten = (es.take m).flatten ++ (es.drop m).flatten := by rw [← List.flatten_append, List.take_append_drop]
   refine ⟨fun e he => hl e (List.mem_of_mem_take he), cells, t, fz, r1, r2, ?_, r4, fun j v hj => r5 j v ?_⟩
   · rw [hfl, List.length_append] at r3
     omega
   · rw [hfl, List.getElem?_append_left (List.getElem?_eq_some_iff.1 hj).1]
     exact hj
 · exact hs'.obj k' o h1
end Go.Eng
