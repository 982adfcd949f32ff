/-
Symbolic runs whose memory and values are spelt out behind each operation: for laws that run from the empty heap.
-/
import Derived.Test.YtdjbjnnfmkoceaaGreatEngSym
import Derived.Test.YtdjbjnnfmkoceaaGreatX05
import Derived.Maps.RangeRun
import Derived.Test.YtdjbjnnfmkoceaaGreatRows
import Derived.KernelRfl
set_option linter.unusedVariables false
set_option linter.unusedSimpArgs false
set_option maxRecDepth 1000000
namespace Go.Eng
open Go
theorem nT.app {A:aX} {f:Nat} {aeN:List V} {h:aA} {K:V->aA->Prop} {X:Prop} (g:X->A f aeN h K) (x:X):nT A f aeN h K:=⟨g x⟩
def Key.fS {α:Type} (a:Key) (k:Key->α):α:=
 match a with
 |.g n=>k (.g n)
 |.l n=>k (.l n)
def V.f1 {α:Type} (v:V) (k:V->α):α:=
 match v with
 |.b x=>k (.b x)
 |.i kd n=>k (.i kd n)
 |.s x=>k (.s x)
 |.dZ=>k .dZ
 |.p a o=>a.fS fun a=>k (.p a o)
 |.pa a z ix o=>a.fS fun a=>k (.pa a z ix o)
 |.pc c o=>k (.pc c o)
 |.bU=>k .bU
 |.sl t z e=>match t with
  |some a=>a.fS fun a=>k (.sl (some a) z e)
  |none=>k (.sl none z e)
 |.ms a z u l=>a.fS fun a=>k (.ms a z u l)
 |.cY=>k .cY
 |.m a=>a.fS fun a=>k (.m a)
 |.fn f a c=>k (.fn f a c)
 |.eA=>k .eA
 |.agg c=>k (.agg c)
 |.bO c=>k (.bO c)
 |.a8=>k .a8
theorem Key.oC {α:Type} (a:Key) (k:Key->α):a.fS k=k a:=by cases a<;>rfl
theorem V.KR {α:Type} (v:V) (k:V->α):v.f1 k=k v:=by
 cases v<;>(try rfl)
 case sl t z e=>cases t<;>simp only [V.f1,Key.oC]
 all_goals simp only [V.f1,Key.oC]
def rB {α:Type}:List V->(List V->α)->α
 |[],k=>k []
 |v::r,k=>v.f1 fun v=>rB r fun r=>k (v::r)
theorem tX {α:Type}:∀ (l:List V) (k:List V->α),rB l k=k l
 |[],_=>rfl
 |v::r,k=>by simp only [rB,V.KR];rw [tX r]
def V.f2 {α:Type} (v:V) (k:V->α):α:=
 match v with
 |.agg c=>rB c fun c=>k (.agg c)
 |.fn f a c=>rB a fun a=>rB c fun c=>k (.fn f a c)
 |v=>v.f1 k
theorem V.KS {α:Type} (v:V) (k:V->α):v.f2 k=k v:=by
 cases v<;>simp only [V.f2,tX,V.KR]
def Pc {α:Type}:List V->(List V->α)->α
 |[],k=>k []
 |v::r,k=>v.f2 fun v=>Pc r fun r=>k (v::r)
theorem GQ {α:Type}:∀ (l:List V) (k:List V->α),Pc l k=k l
 |[],_=>rfl
 |v::r,k=>by simp only [Pc,V.KS];rw [GQ r]
def V.f3 {α:Type} (v:V) (k:V->α):α:=
 match v with
 |.bO c=>Pc c fun c=>k (.bO c)
 |v=>v.f2 k
theorem V.KT {α:Type} (v:V) (k:V->α):v.f3 k=k v:=by
 cases v<;>simp only [V.f3,GQ,V.KS]
def SO {α:Type}:List (V×V)->(List (V×V)->α)->α
 |[],k=>k []
 |q::r,k=>match q with
  |(a,v)=>a.f1 fun a=>v.f2 fun v=>SO r fun r=>k ((a,v)::r)
theorem GR {α:Type}:∀ (l:List (V×V)) (k:List (V×V)->α),SO l k=k l
 |[],_=>rfl
 |(a,v)::r,k=>by simp only [SO,V.KR,V.KS];rw [GR r]
def Obj.fS {α:Type} (o:Obj) (k:Obj->α):α:=
 match o with
 |.cs c=>rB c fun c=>k (.cs c)
 |.arr z es=>k (.arr z es)
 |.spare=>k .spare
 |.mp kd es=>k (.mp kd es)
theorem Obj.oC {α:Type} (o:Obj) (k:Obj->α):o.fS k=k o:=by cases o<;>simp only [Obj.fS,tX,GR]
def DU {α:Type}:List (Nat×Obj)->(List (Nat×Obj)->α)->α
 |[],k=>k []
 |q::r,k=>match q with
  |(n,o)=>o.fS fun o=>DU r fun r=>k ((n,o)::r)
theorem DV {α:Type}:∀ (l:List (Nat×Obj)) (k:List (Nat×Obj)->α),DU l k=k l
 |[],_=>rfl
 |(n,o)::r,k=>by simp only [DU,Obj.oC];rw [DV r]
def St.fS {α:Type} (st:St) (k:St->α):α:=
 match st with
 |⟨⟨x,a⟩,⟨y,b⟩⟩=>DU a fun a=>DU b fun b=>k ⟨⟨x,a⟩,⟨y,b⟩⟩
theorem St.oC {α:Type} (st:St) (k:St->α):st.fS k=k st:=by
 obtain ⟨⟨x,a⟩,⟨y,b⟩⟩:=st
 simp only [St.fS,DV]
def Fr.fS {α:Type}:Fr->(Fr->α)->α
 |[],k=>k []
 |q::r,k=>match q with
  |(n,v)=>v.f3 fun v=>Fr.fS r fun r=>k ((n,v)::r)
theorem Fr.oC {α:Type}:∀ (l:Fr) (k:Fr->α),Fr.fS l k=k l
 |[],_=>rfl
 |(n,o)::r,k=>by simp only [Fr.fS,V.KT];rw [Fr.oC r]
def pQ.fO:pQ->Bool
 |.alloc _ _=>true
 |.box _ _=>true
 |.IX _ _ _ _ _=>true
 |.store _ _ _=>true
 |.IY _ _=>true
 |.uF _ _=>true
 |.CR _ _ _ _ _ _=>true
 |.zO _ _ _ _=>true
 |.call _ _=>true
 |.pX _ _=>true
 |.append _ _ _ _ _=>true
 |.copy _ _ _=>true
 |.delete _ _ _=>true
 |.clear _ _ _=>true
 |_=>false
def yU {α:Type} (o:pQ) (x:R) (k:V->St->α):α:=
 match x with
 |(v,st)=>match o.fO with
  |true=>st.fS fun st=>v.f3 fun v=>k v st
  |false=>v.f3 fun v=>k v st
theorem DW {α:Type} (o:pQ) (v:V) (st:St) (k:V->St->α):yU o (v,st) k=k v st:=by
 unfold yU
 cases o.fO<;>simp only [V.KT,St.oC]
def tY (o:pQ) (fr:Fr) (st:St):T R:=
 match o with
 |.rH max xs=>fK (.rH max xs) fr st
 |.append m sz bytes s x=>fK (.append m sz bytes s x) fr st
 |.mY sz x lo hi mx=>fK (.mY sz x lo hi mx) fr st
 |.copy sz d x=>fK (.copy sz d x) fr st
 |.Ga x=>fK (.Ga x) fr st
 |o=>step o fr st
theorem DX {A:aX} {o:pQ} {fr:Fr} {st:St} {K:R->Prop} (h:(tY o fr st).wp A K):(step o fr st).wp A K:=by
 cases o<;>first|exact h|exact sG h
noncomputable def T.sq {α:Type} (A:aX) (t:T α):(α->Prop)->Prop:=
 T.rec (motive:=fun _=>(α->Prop)->Prop) (fun a K=>K a) (fun c _ _ it ie K=>jC c (it K) (ie K)) (fun o _ ih K=>p9 o fun x=>ih x K) (fun o _ ih K=>p9 o fun x=>ih x K) (fun o _ ih K=>p9 o fun x=>ih x K)
  (fun o _ ih K=>p9 o fun x=>ih x K) (fun o _ ih K=>p9 o fun x=>ih x K) (fun o _ _ CX ih K=>mL o (CX K) fun x=>ih x K) (fun c _ ih K=>eT c (ih K)) (fun kd n _ ih K=>dY kd n fun x=>ih x K) (fun _ ih K=>HM fun r=>ih r K)
  (fun v u _ ih K=>uQ v u (ih K)) (fun f aeN h _ ih K=>nT A f aeN h fun r h'=>ih r h' K) (fun _=>False) t
theorem T.Rw {α:Type} (A:aX) (t:T α):∀ K,t.sq A K=t.sp A K:=by
 induction t with
 |ret a=>exact fun K=>rfl
 |ite c t e I6 I7=>intro K;show jC c (t.sq A K) (e.sq A K)=_;rw [I6,I7];rfl
 |elem o k ih=>intro K;show (p9 o fun x=>(k x).sq A K)=_;simp only [ih];rfl
 |byte o k ih=>intro K;show (p9 o fun x=>(k x).sq A K)=_;simp only [ih];rfl
 |eU o k ih=>intro K;show (p9 o fun x=>(k x).sq A K)=_;simp only [ih];rfl
 |CQ o k ih=>intro K;show (p9 o fun x=>(k x).sq A K)=_;simp only [ih];rfl
 |obj o k ih=>intro K;show (p9 o fun x=>(k x).sq A K)=_;simp only [ih];rfl
 |jR o n k CX ih=>intro K;show (mL o (n.sq A K) fun x=>(k x).sq A K)=_;simp only [CX,ih];rfl
 |jE c k ih=>intro K;show eT c (k.sq A K)=_;rw [ih];rfl
 |wrap kd n k ih=>intro K;show (dY kd n fun x=>(k x).sq A K)=_;simp only [ih];rfl
 |any k ih=>intro K;show (HM fun x=>(k x).sq A K)=_;simp only [ih];rfl
 |same v u k ih=>intro K;show uQ v u (k.sq A K)=_;rw [ih];rfl
 |call f aeN h k ih=>intro K;show (nT A f aeN h fun r h'=>(k r h').sq A K)=_;simp only [ih];rfl
 |fail=>exact fun K=>rfl
noncomputable def T.bq {α β:Type} (t:T α) (f:α->T β):T β:=
 T.rec (motive:=fun _=>T β) (fun a=>f a) (fun c _ _ it ie=>.ite c it ie) (fun o _ ih=>.elem o ih) (fun o _ ih=>.byte o ih) (fun o _ ih=>.eU o ih) (fun o _ ih=>.CQ o ih) (fun o _ ih=>.obj o ih) (fun o _ _ CX ih=>.jR o CX ih)
  (fun c _ ih=>.jE c ih) (fun kd n _ ih=>.wrap kd n ih) (fun _ ih=>.any ih) (fun v u _ ih=>.same v u ih) (fun g aeN h _ ih=>.call g aeN h ih) .fail t
theorem T.Be {α β:Type} (t:T α) (f:α->T β):t.bq f=t.bind f:=by
 induction t with
 |ret a=>rfl
 |ite c t e I6 I7=>show T.ite c (t.bq f) (e.bq f)=_;rw [I6,I7];rfl
 |elem o k ih=>show (T.elem o fun x=>(k x).bq f)=_;simp only [ih];rfl
 |byte o k ih=>show (T.byte o fun x=>(k x).bq f)=_;simp only [ih];rfl
 |eU o k ih=>show (T.eU o fun x=>(k x).bq f)=_;simp only [ih];rfl
 |CQ o k ih=>show (T.CQ o fun x=>(k x).bq f)=_;simp only [ih];rfl
 |obj o k ih=>show (T.obj o fun x=>(k x).bq f)=_;simp only [ih];rfl
 |jR o n k CX ih=>show (T.jR o (n.bq f) fun x=>(k x).bq f)=_;simp only [CX,ih];rfl
 |jE c k ih=>show T.jE c (k.bq f)=_;rw [ih];rfl
 |wrap kd n k ih=>show (T.wrap kd n fun x=>(k x).bq f)=_;simp only [ih];rfl
 |any k ih=>show (T.any fun x=>(k x).bq f)=_;simp only [ih];rfl
 |same v u k ih=>show T.same v u (k.bq f)=_;rw [ih];rfl
 |call g aeN h k ih=>show (T.call g aeN h fun r h'=>(k r h').bq f)=_;simp only [ih];rfl
 |fail=>rfl
abbrev Pd:=Fr->St->T (Fr×St)
noncomputable def Yg (o:cD) (ih:Pd):Pd:=fun fr st=>
 match o.guard with
 |none=>(tY o.op fr st).bq fun x=>yU o.op x fun v st=>fr.after o.dst v o.kill fun fr=>ih fr st
 |some (t,want)=>match fr.get t with
  |.b x=>match want with
   |true=>.ite x
    (fr.cut [t] fun r=>(tY o.op ((t,.b true)::r) st).bq fun x=>yU o.op x fun v st=>Fr.after ((t,.b true)::r) o.dst v o.kill fun fr=>ih fr st)
    (fr.cut [t] fun r=>Fr.after ((t,.b false)::r) o.dst (.bO []) o.kill fun fr=>ih fr st)
   |false=>.ite x
    (fr.cut [t] fun r=>Fr.after ((t,.b true)::r) o.dst (.bO []) o.kill fun fr=>ih fr st)
    (fr.cut [t] fun r=>(tY o.op ((t,.b false)::r) st).bq fun x=>yU o.op x fun v st=>Fr.after ((t,.b false)::r) o.dst v o.kill fun fr=>ih fr st)
  |.bO _=>fr.after o.dst (.bO []) o.kill fun fr=>ih fr st
  |_=>.fail
noncomputable def kV (l:List cD):Pd:=
 List.rec (motive:=fun _=>Pd) (fun fr st=>.ret (fr,st)) (fun o _ ih=>Yg o ih) l
theorem B9 (o:cD) (l:List cD):kV (o::l)=Yg o (kV l):=rfl
theorem rC {A:aX} (hA:A.s7):∀ (ops:List cD) (fr:Fr) (st:St) (K:Fr×St->Prop),(kV ops fr st).wp A K->(cM ops fr st).wp A K
 |[],fr,st,K,h=>h
 |o::rest,fr,st,K,h=>by
  have one:∀ {fY:Fr},((tY o.op fY st).bq fun x=>yU o.op x fun v st=>fY.after o.dst v o.kill fun fr=>kV rest fr st).wp A K->((step o.op fY st).bind fun x=>match x with
   |(v,st)=>fY.after o.dst v o.kill fun fr=>cM rest fr st).wp A K:=by
   intro fY h
   rw [T.Be,T.wp_bind] at h
   rw [T.wp_bind]
   refine DX ?_
   revert h
   refine T.wp_mono hA ?_
   rintro ⟨v,st⟩ h
   dsimp only at h ⊢
   rw [DW,Fr.bJ] at h
   rw [Fr.bJ]
   exact rC hA rest _ _ K h
  have two:∀ {fY:Fr},(fY.after o.dst (.bO []) o.kill fun fr=>kV rest fr st).wp A K->(fY.after o.dst (.bO []) o.kill fun fr=>cM rest fr st).wp A K:=by
   intro fY h
   rw [Fr.bJ] at h ⊢
   exact rC hA rest _ _ K h
  rw [B9] at h
  obtain ⟨dst,op,g,kill⟩:=o
  cases g with
  |none=>exact one h
  |some q=>
   obtain ⟨t,want⟩:=q
   simp only [Yg] at h
   simp only [cM]
   generalize fr.get t=v at h ⊢
   cases v<;>(try exact h)
   case b x=>
    cases want
    · refine ⟨fun hc=>?_,fun hc=>?_⟩
      · have h:=h.1 hc
        rw [Fr.bL] at h ⊢
        exact two h
      · have h:=h.2 hc
        rw [Fr.bL] at h ⊢
        exact one h
    · refine ⟨fun hc=>?_,fun hc=>?_⟩
      · have h:=h.1 hc
        rw [Fr.bL] at h ⊢
        exact one h
      · have h:=h.2 hc
        rw [Fr.bL] at h ⊢
        exact two h
   case bO vs=>exact two h
abbrev Pe:=List aF->Fr->St->T (Fr×St)
noncomputable def SP (d:aF) (ih:Pe):Pe:=fun done fr st=>lL d.o.guard fr
 (fun fr=>(tY d.o.op fr st).bq fun x=>yU d.o.op x fun v st=>fr.after d.o.dst v [] fun fr=>recheck d.re done fr st (ih (d::done) fr st))
 (fun fr=>fr.after d.o.dst (.bO []) [] fun fr=>ih (d::done) fr st)
noncomputable def Bf (l:List aF):Pe:=
 List.rec (motive:=fun _=>Pe) (fun _ fr st=>.ret (fr,st)) (fun d _ ih=>SP d ih) l
theorem FV (o:aF) (l:List aF):Bf (o::l)=SP o (Bf l):=rfl
theorem yV {A:aX} (hA:A.s7):∀ (ds done:List aF) (fr:Fr) (st:St) (K:Fr×St->Prop),(Bf ds done fr st).wp A K->(eN done ds fr st).wp A K
 |[],done,fr,st,K,h=>h
 |d::rest,done,fr,st,K,h=>by
  rw [FV] at h
  simp only [SP] at h
  simp only [eN]
  refine qW (fun fr h=>?_) (fun fr h=>?_) h
  · rw [T.Be,T.wp_bind] at h
    rw [T.wp_bind]
    refine DX ?_
    refine T.wp_mono hA ?_ h
    rintro ⟨v,st⟩ h
    dsimp only at h ⊢
    rw [DW,Fr.bJ] at h
    rw [Fr.bJ]
    exact eL hA (fun h=>yV hA rest _ _ _ K h) h
  · rw [Fr.bJ] at h ⊢
    exact yV hA rest _ _ _ K h
abbrev DY:=(Ex->Fr->St->Prop)->Fr->St->Prop
open Go
structure Ren where
 g:Nat->Nat
 l:Nat->Nat
def Ren.key (ρ:Ren):Key->Key
 |.g n=>.g (ρ.g n)
 |.l n=>.l (ρ.l n)
def V.FJ (ρ:Ren):V->V
 |.p k off=>.p (ρ.key k) off
 |.pa k sz ix off=>.pa (ρ.key k) sz ix off
 |.sl (some k) sz es=>.sl (some (ρ.key k)) sz es
 |.ms k sz st len=>.ms (ρ.key k) sz st len
 |.m k=>.m (ρ.key k)
 |v=>v
structure pD where
 g:Nat
 l:Nat
def pD.has (b:pD):Key->Prop
 |.g n=>n<b.g
 |.l n=>n<b.l
def V.Ya (b:pD):V->Prop
 |.p k _=>b.has k
 |.pa k _ _ _=>b.has k
 |.sl (some k) _ _=>b.has k
 |.ms k _ _ _=>b.has k
 |.m k=>b.has k
 |.agg _=>False
 |.bO _=>False
 |.fn _ _ _=>False
 |_=>True
def Env.IQ (E:Env) (ρ:Ren) (b:pD):Env:=⟨E.I,fun k=>E.μ (ρ.key k),b.g,b.l⟩
theorem Env.sL {E:Env} {ρ:Ren} {b:pD} {k:Key} (h:b.has k):(E.IQ ρ b).has k:=by cases k<;>exact h
theorem Kp {E:Env} {ρ:Ren} {b:pD} {v:V} {x:Value} (hb:v.Ya b) (h:Rel E (v.FJ ρ) x):Rel (E.IQ ρ b) v x:=by
 cases v
 case b=>cases h with|deep hd=>exact .deep hd
 case i=>cases h with|deep hd=>exact .deep hd
 case s=>cases h with|deep hd=>exact .deep hd
 case dZ=>cases h with
  |deep hd=>exact .deep hd
  |dZ=>exact .dZ
 case p k off=>cases h with
  |deep hd=>cases hd
  |p _ _ hk=>exact .p (E:=E.IQ ρ b) k off (Env.sL hb)
 case pa k sz ix off=>cases h with
  |deep hd=>cases hd
  |pa _ _ _ _ hk=>exact .pa (E:=E.IQ ρ b) k sz ix off (Env.sL hb)
 case pc cs off=>cases h with
  |deep hd=>cases hd
  |pc _ _ aW o val hv hr=>exact .pc cs off aW o val hv hr
 case bU=>cases h with|deep hd=>exact .deep hd
 case sl tok sz es=>
  cases tok with
  |none=>cases h with|deep hd=>exact .deep hd
  |some k=>cases h with
   |deep hd=>cases hd
   |AE _ _ _ a cap hk hd Og hs=>exact .AE (E:=E.IQ ρ b) k sz es a cap (Env.sL hb) hd Og hs
 case ms k sz st len=>cases h with
  |deep hd=>cases hd
  |ms _ _ _ _ a cap hk hc hf Og ha=>exact .ms (E:=E.IQ ρ b) k sz st len a cap (Env.sL hb) hc hf Og ha
 case cY=>cases h with
  |deep hd=>exact .deep hd
  |cY=>exact .cY
 case m k=>cases h with
  |deep hd=>cases hd
  |m _ hk=>exact .m (E:=E.IQ ρ b) k (Env.sL hb)
 case fn=>exact hb.elim
 case eA=>cases h with
  |deep hd=>exact .deep hd
  |eA=>exact .eA
 case agg=>exact hb.elim
 case bO=>exact hb.elim
 case a8=>exact .a8 x
def St.lim (st:St):pD:=⟨st.g.next,st.l.next⟩
def Key.lim (b:pD):Key->pD
 |.g _=>⟨b.g,0⟩
 |.l _=>b
open Go
abbrev Fz:=Key->Option (Nat×List (List V))
def Pf:Fz:=fun _=>none
mutual
inductive Nd:V->V->Prop where
 |refl (v:V):Nd v v
 |nil (sz:Nat):Nd .bU (.sl none sz [])
 |sl {sz:Nat} {es ds:List (List V)} (h:Ca es ds):Nd (.sl none sz es) (.sl none sz ds)
inductive IS:List V->List V->Prop where
 |nil:IS [] []
 |cons {u v:V} {r q:List V} (h:Nd u v) (t:IS r q):IS (u::r) (v::q)
inductive Ca:List (List V)->List (List V)->Prop where
 |nil:Ca [] []
 |cons {u v:List V} {r q:List (List V)} (h:IS u v) (t:Ca r q):Ca (u::r) (v::q)
end
theorem IS.append:∀ {l q l' q':List V},IS l q->IS l' q'->IS (l++l') (q++q')
 |[],_,_,_,.nil,h=>h
 |_::_,_,_,_,.cons h t,h'=>.cons h (t.append h')
theorem Ca.flat:∀ {l q:List (List V)},Ca l q->IS l.flatten q.flatten
 |[],_,.nil=>.nil
 |_::_,_,.cons h t=>by rw [List.flatten_cons,List.flatten_cons];exact h.append t.flat
theorem IS.spec:∀ {l q:List V},IS l q->q.length=l.length/\∀ (j:Nat) (v:V),q[j]? =some v->∃ u,l[j]? =some u/\Nd u v
 |[],_,.nil=>⟨rfl,fun j v h=>by simp at h⟩
 |u::r,_,.cons h t=>by
  obtain ⟨h1,h2⟩:=IS.spec t
  refine ⟨by simp [h1],fun j w hj=>?_⟩
  cases j with
  |zero=>simp at hj;subst hj;exact ⟨u,rfl,h⟩
  |succ j=>obtain ⟨x,h3,h4⟩:=h2 j w (by simpa using hj);exact ⟨x,by simpa using h3,h4⟩
theorem Ca.len {sz:Nat}:∀ {l q:List (List V)},Ca l q->(∀ e∈l,e.length=sz)->q.length=l.length/\∀ e∈q,e.length=sz
 |[],_,.nil,_=>⟨rfl,fun e he=>by cases he⟩
 |_::_,_,.cons h t,hl=>by
  obtain ⟨h1,h2⟩:=t.len (fun e he=>hl e (.tail _ he))
  refine ⟨by simp [h1],fun e he=>?_⟩
  cases he with
  |head=>rw [h.spec.1];exact hl _ (.head _)
  |tail _ he=>exact h2 e he
theorem cV.nd {I:rK} {u:V} {x:Value} (hr:cV I u x):∀ {v:V},Nd u v->cV I v x:=by
 induction hr with
 |b x=>intro v h;cases h;exact .b x
 |i k n=>intro v h;cases h;exact .i k n
 |s l=>intro v h;cases h;exact .s l
 |bU=>intro v h;cases h with
  |refl=>exact .bU
  |nil sz=>exact .jF sz
 |jF sz=>intro v h;cases h with
  |refl=>exact .jF sz
  |sl h=>cases h;exact .jF sz
 |EW sz a hs=>intro v h;cases h with
  |refl=>exact .EW sz a hs
  |sl h=>cases h;exact .EW sz a hs
 |sl sz es aW off cap val hc hl hv hr ih=>intro v h;cases h with
  |refl=>exact .sl sz es aW off cap val hc hl hv hr
  |@sl _ _ ds h=>
   obtain ⟨l1,l2⟩:=h.len hl
   obtain ⟨s1,s2⟩:=h.flat.spec
   rw [<-l1]
   refine .sl sz ds aW off cap val (by omega) l2 (fun j d hj=>?_) (fun j d hj=>?_)
   · obtain ⟨u,hu,_⟩:=s2 j d hj;exact hv j u hu
   · obtain ⟨u,hu,hn⟩:=s2 j d hj;exact ih j u hu hn
inductive Ce (ρ:Ren) (b:pD) (F:Fz):V->V->Prop where
 |IQ {u v:V} (e:u=v.FJ ρ) (h:v.Ya b):Ce ρ b F u v
 |frz {k:Key} {sz s n:Nat} {ds es:List (List V)} (h:F k=some (sz,ds)) (hn:s+n<=ds.length) (he:es=(ds.drop s).take n):Ce ρ b F (.ms k sz s n) (.sl none sz es)
 |tok {k:Key} {sz:Nat} {es:List (List V)}:Ce ρ b F (.sl (some k) sz es) (.sl none sz es)
 |rows {t:Option Key} {sz:Nat} {es ds:List (List V)} (h:Ca es ds):Ce ρ b F (.sl t sz es) (.sl none sz ds)
 |nil {sz:Nat}:Ce ρ b F .bU (.sl none sz [])
 |a8 {v:V}:Ce ρ b F v .a8
def DZ (ρ:Ren) (b:pD) (F:Fz):List V->List V->Prop
 |[],[]=>True
 |u::r,v::q=>Ce ρ b F u v/\DZ ρ b F r q
 |_,_=>False
def HR (ρ:Ren) (b:pD) (F:Fz):List (List V)->List (List V)->Prop
 |[],[]=>True
 |u::r,v::q=>DZ ρ b F u v/\HR ρ b F r q
 |_,_=>False
def SQ (ρ:Ren) (b:pD) (F:Fz) (u v:V):Prop:=
 Ce ρ b F u v\/(∃ cs ds,u=.agg cs/\v=.agg ds/\DZ ρ b F cs ds)\/∃ f a c a' c',u=.fn f a c/\v=.fn f a' c'/\DZ ρ b F a a'/\DZ ρ b F c c'
def HS (ρ:Ren) (b:pD) (F:Fz):List V->List V->Prop
 |[],[]=>True
 |u::r,v::q=>SQ ρ b F u v/\HS ρ b F r q
 |_,_=>False
def Uj (ρ:Ren) (b:pD) (F:Fz) (u v:V):Prop:=
 SQ ρ b F u v\/∃ cs ds,u=.bO cs/\v=.bO ds/\HS ρ b F cs ds
def VD (ρ:Ren) (b:pD) (F:Fz):List (V×V)->List (V×V)->Prop
 |[],[]=>True
 |u::r,v::q=>(u.1=v.1/\SQ ρ b F u.2 v.2)/\VD ρ b F r q
 |_,_=>False
def Yi (ρ:Ren) (b:pD) (F:Fz):Obj->Obj->Prop
 |.cs c,.cs d=>DZ ρ b F c d
 |.arr sz es,.arr cS ds=>sz=cS/\HR ρ b F es ds
 |.spare,.spare=>True
 |.mp kd es,.mp s0 ds=>kd=s0/\VD ρ b F es ds
 |_,_=>False
theorem DZ.spec {ρ:Ren} {b:pD} {F:Fz}:∀ {l q:List V},DZ ρ b F l q->q.length=l.length/\∀ (j:Nat) (v:V),q[j]? =some v->∃ u,l[j]? =some u/\Ce ρ b F u v
 |[],[],_=>⟨rfl,fun j v h=>by simp at h⟩
 |u::r,v::q,h=>by
  obtain ⟨h1,h2⟩:=DZ.spec h.2
  refine ⟨by simp [h1],fun j w hj=>?_⟩
  cases j with
  |zero=>simp at hj;subst hj;exact ⟨u,rfl,h.1⟩
  |succ j=>obtain ⟨x,h3,h4⟩:=h2 j w (by simpa using hj);exact ⟨x,by simpa using h3,h4⟩
 |[],_::_,h=>h.elim
 |_::_,[],h=>h.elim
theorem HS.spec {ρ:Ren} {b:pD} {F:Fz}:∀ {l q:List V},HS ρ b F l q->q.length=l.length/\∀ (j:Nat) (v:V),q[j]? =some v->∃ u,l[j]? =some u/\SQ ρ b F u v
 |[],[],_=>⟨rfl,fun j v h=>by simp at h⟩
 |u::r,v::q,h=>by
  obtain ⟨h1,h2⟩:=HS.spec h.2
  refine ⟨by simp [h1],fun j w hj=>?_⟩
  cases j with
  |zero=>simp at hj;subst hj;exact ⟨u,rfl,h.1⟩
  |succ j=>obtain ⟨x,h3,h4⟩:=h2 j w (by simpa using hj);exact ⟨x,by simpa using h3,h4⟩
 |[],_::_,h=>h.elim
 |_::_,[],h=>h.elim
theorem VD.spec {ρ:Ren} {b:pD} {F:Fz}:∀ {l q:List (V×V)},VD ρ b F l q->q.length=l.length/\∀ (j:Nat) (v:V×V),q[j]? =some v->∃ u,l[j]? =some u/\u.1=v.1/\SQ ρ b F u.2 v.2
 |[],[],_=>⟨rfl,fun j v h=>by simp at h⟩
 |u::r,v::q,h=>by
  obtain ⟨h1,h2⟩:=VD.spec h.2
  refine ⟨by simp [h1],fun j w hj=>?_⟩
  cases j with
  |zero=>simp at hj;subst hj;exact ⟨u,rfl,h.1⟩
  |succ j=>obtain ⟨x,h3,h4⟩:=h2 j w (by simpa using hj);exact ⟨x,by simpa using h3,h4⟩
 |[],_::_,h=>h.elim
 |_::_,[],h=>h.elim
theorem DZ.append {ρ:Ren} {b:pD} {F:Fz}:∀ {l q:List V},DZ ρ b F l q->∀ {l' q':List V},DZ ρ b F l' q'->DZ ρ b F (l++l') (q++q')
 |[],[],_,_,_,h=>h
 |_::_,_::_,h,_,_,h'=>⟨h.1,h.2.append h'⟩
 |[],_::_,h,_,_,_=>h.elim
 |_::_,[],h,_,_,_=>h.elim
theorem HR.flat {ρ:Ren} {b:pD} {F:Fz}:∀ {l q:List (List V)},HR ρ b F l q->DZ ρ b F l.flatten q.flatten
 |[],[],_=>trivial
 |u::r,v::q,h=>by rw [List.flatten_cons,List.flatten_cons];exact h.1.append h.2.flat
 |[],_::_,h=>h.elim
 |_::_,[],h=>h.elim
theorem HR.len {ρ:Ren} {b:pD} {F:Fz} {sz:Nat}:∀ {l q:List (List V)},HR ρ b F l q->(∀ e∈l,e.length=sz)->∀ e∈q,e.length=sz
 |[],[],_,_=>fun e he=>by cases he
 |u::r,v::q,h,hl=>fun e he=>by
  cases he with
  |head=>rw [h.1.spec.1];exact hl u (.head _)
  |tail _ he=>exact h.2.len (fun e he=>hl e (.tail _ he)) e he
 |[],_::_,h,_=>h.elim
 |_::_,[],h,_=>h.elim
def Am (st:St) (F:Fz):Prop:=∀ k sz ds,F k=some (sz,ds)->∃ es,st.get k=some (.arr sz es)/\dD es=some ds
open Classical in
noncomputable def jO (E:Env) (w:World) (F:Fz):rK:=fun b o=>match E.I b o with
 |some x=>some x
 |none=>if ∃ k sz ds,F k=some (sz,ds)/\(E.μ k).aW=b/\(E.μ k).base<=o/\o<(E.μ k).base+ds.flatten.length then aT w b o else none
theorem wT (E:Env) (w:World) (F:Fz):∀ b o x,E.I b o=some x->jO E w F b o=some x:=fun b o x h=>by unfold jO;rw [h]
theorem HT {E:Env} {w:World} {F:Fz} (h:∀ b o x,E.I b o=some x->aT w b o=some x) {b o:Nat} {x:Value} (hx:jO E w F b o=some x):aT w b o=some x:=by
 unfold jO at hx
 split at hx
 · rename_i y hy;cases hx;exact h _ _ _ hy
 · split at hx
   · exact hx
   · cases hx
theorem KU {E:Env} {w:World} {F:Fz} {b o:Nat} {x:Value} (hx:jO E w F b o=some x):E.I b o=some x\/∃ k sz ds,F k=some (sz,ds)/\(E.μ k).aW=b:=by
 unfold jO at hx
 split at hx
 · rename_i y hy;cases hx;exact .inl hy
 · split at hx
   · rename_i h;obtain ⟨k,sz,ds,h1,h2,_⟩:=h;exact .inr ⟨k,sz,ds,h1,h2⟩
   · cases hx
theorem Pg {E:Env} {st:St} {w:World} {F:Fz} (hs:bC E st w) (hF:Am st F) {k:Key} {sz:Nat} {ds:List (List V)} (h:F k=some (sz,ds)):
 (∀ e∈ds,e.length=sz)/\∀ (j:Nat) (d:V),ds.flatten[j]? =some d->∃ x,jO E w F (E.μ k).aW ((E.μ k).base+j)=some x/\cV (jO E w F) d x:=by
 obtain ⟨es,h1,h2⟩:=hF k sz ds h
 obtain ⟨h3,h4,h5⟩:=fB h2
 obtain ⟨hl,cells,t,fz,c1,c2,c3,c4,c5⟩:=hs.obj k _ h1
 obtain ⟨h6,h7⟩:=iI h3
 refine ⟨h5 hl,fun j d hd=>?_⟩
 obtain ⟨v,hv,RW⟩:=h7 j d hd
 obtain ⟨x,hx,hr,_⟩:=c5 j v hv
 have cQ:j<ds.flatten.length:=(List.getElem?_eq_some_iff.1 hd).1
 have jH:aT w (E.μ k).aW ((E.μ k).base+j)=some x:=by simp only [aT,c1];exact hx
 refine ⟨x,?_,(rU RW (hr.mono (E.rL k))).mono (wT E w F)⟩
 unfold jO
 rw [hs.own k ⟨_,h1⟩ _ (Nat.le_add_right _ _) (by omega)]
 dsimp only
 rw [if_pos ⟨k,sz,ds,h,rfl,Nat.le_add_right _ _,by omega⟩]
 exact jH
structure Env.Sub (E E0:Env):Prop where
 I:E0.I=E.I
 μ:E0.μ=E.μ
def Env.KV (E:Env) (ρ:Ren) (b:pD) (I:rK):Env:=⟨I,fun k=>E.μ (ρ.key k),b.g,b.l⟩
theorem Env.SR (E:Env) (ρ:Ren) (b:pD) {I:rK} (h:∀ b o x,E.I b o=some x->I b o=some x):(E.IQ ρ b).Le (E.KV ρ b I):=⟨h,Nat.le_refl _,Nat.le_refl _,fun _ _=>rfl⟩
section
variable {E:Env} {st:St} {w:World} {F:Fz} {ρ:Ren} {b:pD}
theorem FW (hs:bC E st w) (hF:Am st F) {E0:Env} (h0:E.Sub E0) {u v:V} {x:Value} (hc:Ce ρ b F u v) (hr:Rel E0 u x):Rel (E0.KV ρ b (jO E w F)) v x:=by
 have hI:∀ b o x,E0.I b o=some x->jO E w F b o=some x:=fun b o x h=>wT E w F b o x (by rw [<-h0.I];exact h)
 cases hc with
 |IQ e hb=>subst e;exact (Kp hb hr).mono (E0.SR ρ b hI)
 |@frz k sz s n ds es h hn he=>
  subst he
  obtain ⟨f1,f2⟩:=Pg hs hF h
  refine .deep ?_
  cases hr with
  |deep hd=>cases hd
  |ms _ _ _ _ a cap hk hc hf hb ha=>
   have hlen:((ds.drop s).take n).length=n:=by simp;omega
   rcases ha with ha|ha
   · obtain rfl:n=0:=by omega
     rw [ha]
     simp only [List.take_zero]
     exact cV.wI sz _
   · rw [ha]
     have:=cV.sl (I:=jO E w F) sz ((ds.drop s).take n) (E0.μ k).aW ((E0.μ k).base+s*sz) cap (fun j=>((jO E w F (E0.μ k).aW ((E0.μ k).base+s*sz+j)).getD default)) (by omega)
      (fun e he=>f1 e (List.mem_of_mem_drop (List.mem_of_mem_take he))) ?_ ?_
     · rwa [hlen] at this
     · intro j d hj
       have Yj:ds.flatten[s*sz+j]? =some d:=by
        rw [iG (fun e he=>f1 e (List.mem_of_mem_drop he)),iH f1] at hj
        rw [List.getElem?_take] at hj
        split at hj
        · rw [List.getElem?_drop] at hj;exact hj
        · cases hj
       obtain ⟨y,hy,_⟩:=f2 _ d Yj
       rw [h0.μ,Nat.add_assoc,hy]
       rfl
     · intro j d hj
       have Yj:ds.flatten[s*sz+j]? =some d:=by
        rw [iG (fun e he=>f1 e (List.mem_of_mem_drop he)),iH f1] at hj
        rw [List.getElem?_take] at hj
        split at hj
        · rw [List.getElem?_drop] at hj;exact hj
        · cases hj
       obtain ⟨y,hy,Xv⟩:=f2 _ d Yj
       rw [h0.μ,Nat.add_assoc,hy]
       exact Xv
 |tok=>cases hr with
  |deep hd=>cases hd
  |AE _ _ _ a cap hk hd Og iA=>exact .deep (hd.mono hI)
 |@rows t sz es ds h=>cases hr with
  |deep hd=>
   cases t with
   |some k=>cases hd
   |none=>exact .deep ((hd.mono hI).nd (.sl h))
  |AE _ _ _ a cap hk hd Og iA=>exact .deep ((hd.mono hI).nd (.sl h))
 |nil=>cases hr with
  |deep hd=>cases hd with
   |bU=>exact .deep (.jF _)
 |a8=>exact .a8 x
theorem Cb (hs:bC E st w) (hF:Am st F) {E0:Env} (h0:E.Sub E0) {l q:List V} (hc:DZ ρ b F l q) {xs:Array Value} (hn:xs.size=l.length)
 (hr:∀ (j:Nat) (v:V) (x:Value),l[j]? =some v->xs[j]? =some x->Rel E0 v x):xs.size=q.length/\∀ (j:Nat) (v:V) (x:Value),q[j]? =some v->xs[j]? =some x->Rel (E0.KV ρ b (jO E w F)) v x:=by
 obtain ⟨h1,h2⟩:=hc.spec
 refine ⟨by omega,fun j v x hj hx=>?_⟩
 obtain ⟨u,hu,hc⟩:=h2 j v hj
 exact FW hs hF h0 hc (hr j u x hu hx)
theorem Cc (hs:bC E st w) (hF:Am st F) {E0:Env} (h0:E.Sub E0) {u v:V} {x:Value} (hc:SQ ρ b F u v) (hr:Rel E0 u x):Rel (E0.KV ρ b (jO E w F)) v x:=by
 rcases hc with hc|⟨cs,ds,rfl,rfl,hc⟩|⟨f,a,c,a',c',rfl,rfl,ha,hc⟩
 · exact FW hs hF h0 hc hr
 · cases hr with
   |deep hd=>cases hd
   |agg _ xs hn h1 hr=>
    obtain ⟨h2,h3⟩:=Cb hs hF h0 hc hn hr
    exact .agg _ _ h2 h1 h3
 · cases hr with
   |deep hd=>cases hd
   |fn _ _ _ ya yc VE Xq II T4=>
    obtain ⟨h2,h3⟩:=Cb hs hF h0 ha VE II
    obtain ⟨h4,h5⟩:=Cb hs hF h0 hc Xq T4
    exact .fn _ _ _ _ _ h2 h4 h3 h5
theorem Pj (hs:bC E st w) (hF:Am st F) {E0:Env} (h0:E.Sub E0) {u v:V} {x:Value} (hc:Uj ρ b F u v) (hr:Rel E0 u x):Rel (E0.KV ρ b (jO E w F)) v x:=by
 rcases hc with hc|⟨cs,ds,rfl,rfl,hc⟩
 · exact Cc hs hF h0 hc hr
 · cases hr with
   |deep hd=>cases hd
   |bO _ xs hn hr=>
    obtain ⟨h1,h2⟩:=hc.spec
    refine .bO _ _ (by omega) fun j v x hj hx=>?_
    obtain ⟨u,hu,hc⟩:=h2 j v hj
    exact Cc hs hF h0 hc (hr j u x hu hx)
theorem FX {z:Nat} (hs:bC E st w) (hF:Am st F) {E0:Env} (h0:E.Sub E0) {L:Loc} {cs ds:List V} (hc:DZ ρ b F cs ds) (h:eH z E0 w L cs):eH z (E0.KV ρ b (jO E w F)) w L ds:=by
 obtain ⟨cells,t,fz,h1,h2,h3,h4,h5⟩:=h
 obtain ⟨c1,c2⟩:=hc.spec
 refine ⟨cells,t,fz,h1,h2,by omega,h4,fun j v hj=>?_⟩
 obtain ⟨u,hu,hc⟩:=c2 j v hj
 obtain ⟨x,hx,hr,ho⟩:=h5 j u hu
 exact ⟨x,hx,FW hs hF h0 hc hr,ho⟩
theorem ce_holds (hs:bC E st w) (hF:Am st F) {E0:Env} (h0:E.Sub E0) {L:Loc} {o o':Obj} (hc:Yi ρ b F o o') (h:Holds E0 w L o):Holds (E0.KV ρ b (jO E w F)) w L o':=by
 cases o<;>cases o'<;>simp only [Yi] at hc
 case cs.cs c d=>exact ⟨h.1,FX hs hF h0 hc h.2⟩
 case arr.arr sz es cS ds=>
  obtain ⟨rfl,hc⟩:=hc
  exact ⟨hc.len h.1,FX hs hF h0 hc.flat h.2⟩
 case spare.spare=>exact FX hs hF h0 (cs:=[]) (ds:=[]) trivial h
 case mp.mp kd es s0 ds=>
  obtain ⟨rfl,hc⟩:=hc
  obtain ⟨aP,clock,h1,h2,h3,h4⟩:=h
  obtain ⟨c1,c2⟩:=hc.spec
  refine ⟨aP,clock,h1,by omega,fun j q e hq he=>?_,h4⟩
  obtain ⟨u,hu,e1,e2⟩:=c2 j q hq
  obtain ⟨a1,a2,a3⟩:=h3 j u e hu he
  rw [e1] at a1 a2
  exact ⟨a1.mono (fun b o x hx=>wT E w F b o x (by rw [<-h0.I];exact hx)),a2,Cc hs hF h0 e2 a3⟩
end
structure Rx (ρ:Ren) (F:Fz) (fr:Fr) (st:St) (bH:Fr) (aR:St):Prop where
 fz:Am st F
 inj:∀ k k',aR.live k->aR.live k'->ρ.key k=ρ.key k'->k=k'
 obj:∀ k o',aR.get k=some o'->aR.lim.has k/\F (ρ.key k)=none/\∃ o,st.get (ρ.key k)=some o/\Yi ρ (k.lim aR.lim) F o o'
 fr:∀ t,Uj ρ aR.lim F (fr.get t) (bH.get t)
theorem Rx.ok {ρ:Ren} {F:Fz} {fr:Fr} {st:St} {bH:Fr} {aR:St} (h:Rx ρ F fr st bH aR) {E:Env} {w:World} (hs:bC E st w):
 bC (E.KV ρ aR.lim (jO E w F)) aR w/\∀ (t:Nat) (x:Value),Rel E (fr.get t) x->Rel (E.KV ρ aR.lim (jO E w F)) (bH.get t) x:=by
 have hl:∀ k,aR.live k->st.live (ρ.key k):=fun k ⟨o,ho⟩=>by obtain ⟨_,_,o',h1,_⟩:=h.obj k o ho;exact ⟨_,h1⟩
 refine ⟨⟨rfl,rfl,fun k ⟨o,ho⟩=>?_,fun b o x hx=>HT hs.gJ hx,fun k o ho=>?_,fun k k' hk jG cO=>?_,fun k hk j h1 h2=>?_⟩,fun t x hx=>Pj hs h.fz ⟨rfl,rfl⟩ (h.fr t) hx⟩
 · have:=(h.obj k o ho).1
   cases k<;>exact this
 · obtain ⟨_,_,o0,h2,h3⟩:=h.obj k o ho
   have h4:=hs.obj _ _ h2
   cases k with
   |g n=>exact ce_holds (E0:=E.cut) (b:=⟨aR.lim.g,0⟩) hs h.fz ⟨rfl,rfl⟩ h3 h4
   |l n=>exact ce_holds (E0:=E) hs h.fz ⟨rfl,rfl⟩ h3 h4
 · exact hs.sep _ _ (hl k hk) (hl k' jG) fun e=>cO (h.inj k k' hk jG e)
 · show jO E w F (E.μ (ρ.key k)).aW j=none
   have hZ:=hl k hk
   obtain ⟨o,ho⟩:=hk
   obtain ⟨_,xL,_⟩:=h.obj k o ho
   have KW:=hs.own _ hZ j h1 h2
   unfold jO
   rw [KW]
   dsimp only
   rw [if_neg]
   rintro ⟨k1,sz,ds,e1,e2,_⟩
   obtain ⟨es,e3,_⟩:=h.fz k1 sz ds e1
   by_cases By:k1=ρ.key k
   · subst By;rw [xL] at e1;cases e1
   · exact hs.sep _ _ ⟨_,e3⟩ hZ By e2
theorem Rx.VF {ρ:Ren} {F:Fz} {fr:Fr} {st:St} {bH:Fr} {aR:St} (h:Rx ρ F fr st bH aR) {n:Nat} (hρ:∀ i,i<n->ρ.g i=i) (hn:n<=aR.g.next) {E0 E:Env} {st0:St} {w0 w:World} (z1:E0.ng=n) (z2:E0.nl=0) (he:Ext E0 st0 w0 E st w):Ext E0 st0 w0 (E.KV ρ aR.lim (jO E w F)) aR w:=by
 have HL:∀ k,E0.has k->ρ.key k=k:=fun k hk=>by
  cases k with
  |g i=>
   have hi:i<E0.ng:=hk
   show Key.g (ρ.g i)=.g i
   rw [hρ i (by omega)]
  |l i=>
   have hi:i<E0.nl:=hk
   omega
 refine ⟨⟨fun b o x hx=>wT E w F b o x (he.le.gJ b o x hx),by rw [z1];exact hn,by rw [z2];exact Nat.zero_le _,fun k hk=>?_⟩,he.size,fun b o x hx=>?_,fun k ⟨o,ho⟩ hk=>?_,fun k ⟨o,ho⟩ _=>?_,he.same,he.os,he.out,he.tape⟩
 · show E.μ (ρ.key k)=E0.μ k
   rw [HL k hk]
   exact he.le.loc k hk
 · rcases KU hx with h1|⟨k,sz,ds,h1,h2⟩
   · exact he.eJ b o x h1
   · obtain ⟨es,h3,_⟩:=h.fz k sz ds h1
     by_cases hk:E0.has k
     · exact .inr (.inr ⟨k,he.eF k ⟨_,h3⟩ hk,by rw [<-he.le.loc k hk];exact h2⟩)
     · rcases he.eQ k ⟨_,h3⟩ hk with h4|⟨k0,h4,h5⟩
       · exact .inr (.inl (h2▸h4))
       · exact .inr (.inr ⟨k0,h4,h5.trans h2⟩)
 · obtain ⟨_,_,o0,h1,_⟩:=h.obj k o ho
   rw [HL k hk] at h1
   exact he.eF k ⟨_,h1⟩ hk
 · obtain ⟨_,_,o0,h1,_⟩:=h.obj k o ho
   by_cases hk:E0.has (ρ.key k)
   · exact .inr ⟨_,he.eF _ ⟨_,h1⟩ hk,by rw [<-he.le.loc _ hk];rfl⟩
   · exact he.eQ (ρ.key k) ⟨_,h1⟩ hk
def Pure (P:Program) (f:Nat) (args:List V) (Q:V->Prop):Prop:=
 aB P f args zK fun v h'=>∃ ρ F u,Rx ρ F [(0,v)] (eR h') [(0,u)] (eR zK)/\u.free=true/\Q u
theorem Pure.use {P:Program} {f:Nat} {args:List V} {Q:V->Prop} (h0:Pure P f args Q) (ha:args.all V.free=true) {h:aA} {K:V->aA->Prop} (hK:∀ u,u.free=true->Q u->K u h):aB P f args h K:=by
 refine ⟨h0.1,fun E w vs vY hs hv=>?_⟩
 simp only [List.all_eq_true] at ha
 let E0:Env:={ I:=E.I,μ:=E.μ,ng:=0,nl:=0 }
 have X1:bC E0 (eR zK) w:=⟨rfl,rfl,fun k hk=>absurd hk bX,hs.gJ,fun k o hk=>absurd ⟨o,hk⟩ bX,fun k k' hk=>absurd hk bX,fun k hk=>absurd hk bX⟩
 have Vc:cP E0 args vs:=⟨hv.1,fun j v x hj hx=>sE (E:=E) (F:=E0) (fun b o x h=>h) (ha v (List.mem_of_getElem? hj)) (hv.2 j v x hj hx)⟩
 refine (h0.2 E0 w vs rfl X1 Vc).mono ?_
 rintro e w' ⟨v,x,h',E1,⟨ρ,F,u,ht,Gv,hq⟩,rfl,hn,HF,Uk,Gg⟩
 obtain ⟨iA,CN⟩:=ht.ok HF
 have hr:=CN 0 x Gg
 have he:=ht.VF (n:=0) (fun i hi=>absurd hi (Nat.not_lt_zero _)) (Nat.zero_le _) rfl rfl Uk
 generalize E1.KV ρ (eR zK).lim (jO E1 w' F)=E' at iA hr he
 have hr:Rel E' u x:=hr
 have EX:DB E.I E'.I:=he.le.gJ
 have kL:∀ k,(eR h).live k->w'.heap[(E.μ k).aW]? =w.heap[(E.μ k).aW]? :=fun k hk=>he.same _ (hs.lt hk) fun k0 HL=>absurd HL bX
 have hle:E.Le { E with I:=E'.I }:=⟨EX,Nat.le_refl _,Nat.le_refl _,fun _ _=>rfl⟩
 refine ⟨u,x,h,{ E with I:=E'.I },hK u Gv hq,rfl,vY,⟨hs.ng,hs.nl,fun k hk=>hs.g9 k hk,iA.gJ,fun k o hk=>?_,fun k k' hk jG cO=>hs.sep k k' hk jG cO,fun k hk j h1 h2=>?_⟩,
  ⟨hle,he.size,fun b o x hx=>?_,fun k hk _=>hk,fun k hk hn=>absurd (hs.g9 k hk) hn,fun b hb _=>he.same b hb fun k hk=>absurd hk bX,he.os,he.out,he.tape⟩,sE (E:=E') (F:={ E with I:=E'.I }) (fun b o x h=>h) Gv hr⟩
 · exact (hs.obj k o hk).lM (Env.gK hle k) (kL k ⟨o,hk⟩)
 · show E'.I (E.μ k).aW j=none
   cases hx:E'.I (E.μ k).aW j with
   |none=>rfl
   |some y=>
    rcases he.eJ _ _ _ hx with h3|h3|⟨k0,h3,_⟩
    · have:=hs.own k hk j h1 h2
      rw [show E0.I=E.I from rfl,this] at h3
      cases h3
    · have:=hs.lt hk
      omega
    · exact absurd h3 bX
 · rcases he.eJ b o x hx with h1|h1|⟨k0,h1,_⟩
   · exact .inl h1
   · exact .inr (.inl h1)
   · exact absurd h1 bX
open Go
def Pk (n:Nat) (fr:Fr) (st:St) (bH:Fr) (aR:St):Prop:=(bH=fr/\aR=st)\/∃ ρ F,Rx ρ F fr st bH aR/\(∀ i,i<n->ρ.g i=i)/\n<=aR.g.next
theorem Pk.ok {n:Nat} {fr bH:Fr} {st aR:St} (h:Pk n fr st bH aR) {E0 E:Env} {st0:St} {w0 w:World} (z1:E0.ng=n) (z2:E0.nl=0) (hs:bC E st w) (he:Ext E0 st0 w0 E st w):
 ∃ E',bC E' aR w/\Ext E0 st0 w0 E' aR w/\∀ (t:Nat) (x:Value),Rel E (fr.get t) x->Rel E' (bH.get t) x:=by
 rcases h with ⟨rfl,rfl⟩|⟨ρ,F,h,h1,h2⟩
 · exact ⟨E,hs,he,fun _ _ h=>h⟩
 · exact ⟨_,(h.ok hs).1,h.VF h1 h2 z1 z2 he,(h.ok hs).2⟩
def HU (n:Nat) (A:aX):AC->(Ex->Fr->St->Prop)->Fr->St->Prop
 |.skip,Q,fr,st=>Q .normal fr st
 |.Gb ops,Q,fr,st=>(cM ops fr st).wp A (jN Q)
 |.vD ds kill,Q,fr,st=>((eN [] ds fr st).bind (qS kill)).wp A (jN Q)
 |.seq a b,Q,fr,st=>HU n A a (mJ (HU n A b Q) Q) fr st
 |.cond c a b,Q,fr,st=>match c.ev fr with
  |.b x=>Ur x (HU n A a Q fr st) (HU n A b Q fr st)
  |_=>False
 |.aW id b,Q,fr,st=>HU n A b (gA id Q) fr st
 |.loop b,Q,fr,st=>∀ R:Fr->St->Prop,(∀ fr st bH aR,Pk n fr st bH aR->HU n A b (mJ R Q) bH aR->R fr st)->R fr st
 |.exit id,Q,fr,st=>Q (.exit id) fr st
 |.ret,Q,fr,st=>Q .ret fr st
 |.no,_,_,_=>False
section
variable {P:Program} {n N:Nat} {E0:Env} {st0:St} {w0:World}
theorem kD (z1:E0.ng=n) (z2:E0.nl=0):∀ (A:AC) (c:Code),pU P N c A=true->∀ (Q:Ex->Fr->St->Prop) {fr:Fr} {st:St} {E:Env} {w:World} {a:Act},
 bC E st w->Ext E0 st0 w0 E st w->aJ E N fr a->a.defers=[]->HU n (aB P) A Q fr st->c.wp P (kG N E0 st0 w0 Q) a w
 |.skip,c,hk,Q,fr,st,E,w,a,hs,he,hf,hd,hw=>by
  cases c<;>simp [pU] at hk
  · exact wp_skip ⟨fr,st,E,hw,hs,he,hf,hd⟩
  · exact wp_label ⟨fr,st,E,hw,hs,he,hf,hd⟩
 |.Gb aeN,c,hk,Q,fr,st,E,w,a,hs,he,hf,hd,hw=>by
  cases c<;>simp [pU] at hk
  rename_i id ops draw
  obtain ⟨rfl,hk⟩:=hk
  refine wp_region ?_
  have:=ops_ok (K:=jN Q) (Q:=kG N E0 st0 w0 Q) aeN ops.toList 0 hk (fun k o h=>by simpa using h) hs hf hw (fun bH aR E' a' w' h1 h2 h3 h4 h5=>⟨bH,aR,E',h1,h2,he.trans h3,h4,h5.trans hd⟩)
  rw [List.range_eq_range']
  simpa using this
 |.vD ds kill,c,hk,Q,fr,st,E,w,a,hs,he,hf,hd,hw=>by
  cases c<;>simp [pU] at hk
  rename_i id ops draw
  obtain ⟨rfl,hk⟩:=hk
  simp only [HU] at hw
  rw [T.wp_bind] at hw
  refine drawP_ok hk hs hf hw fun bH aR E' a' w' h1 h2 h3 h4 h5=>?_
  simp only [qS] at h1
  rw [Fr.bL] at h1
  refine ⟨bH.gR kill,aR,E',h1,h2,he.trans h3,⟨h4.size,fun t=>?_⟩,h5.trans hd⟩
  rw [Fr.cR]
  split
  · exact .a8 _
  · exact h4.rel t
 |.seq A B,c,hk,Q,fr,st,E,w,a,hs,he,hf,hd,hw=>by
  cases c<;>simp [pU] at hk
  rename_i x y
  refine wp_seq ?_
  refine wp_mono (kD z1 z2 A x hk.1 _ hs he hf hd hw) ?_
  intro e a' w' h
  cases e with
  |normal=>
   obtain ⟨bH,aR,E',h1,h2,h3,h4,h5⟩:=h
   exact kD z1 z2 B y hk.2 Q h2 h3 h4 h5 h1
  |exit id=>exact h
  |ret=>exact h
  |goto l=>exact h
  |panic ch=>exact h
  |outgrown=>exact h
 |.cond d A B,c,hk,Q,fr,st,E,w,a,hs,he,hf,hd,hw=>by
  cases c<;>simp [pU] at hk
  rename_i x y z
  have r1:=aH hk.1.1 hf
  simp only [HU] at hw
  split at hw
  · rename_i b hb
    rw [hb] at r1
    exact wp_cond_split r1.bool (fun hb=>kD z1 z2 A y hk.1.2 Q hs he hf hd (hw.1 hb)) (fun hb=>kD z1 z2 B z hk.2 Q hs he hf hd (hw.2 hb))
  · exact hw.elim
 |.aW id B,c,hk,Q,fr,st,E,w,a,hs,he,hf,hd,hw=>by
  cases c<;>simp [pU] at hk
  rename_i Ad x
  obtain ⟨rfl,hk⟩:=hk
  refine wp_block (wp_mono (kD z1 z2 B x hk _ hs he hf hd hw) ?_)
  intro e a' w' h
  cases e with
  |normal=>exact h
  |exit id=>
   obtain ⟨bH,aR,E',h1,h2⟩:=h
   simp only [gA] at h1
   simp only [Exit.inBlock]
   split
   · rename_i A0;rw [if_pos A0] at h1;exact ⟨bH,aR,E',h1,h2⟩
   · rename_i A0;rw [if_neg A0] at h1;exact ⟨bH,aR,E',h1,h2⟩
  |ret=>exact h
  |goto l=>exact h
  |panic ch=>exact h
  |outgrown=>exact h
 |.loop B,c,hk,Q,fr,st,E,w,a,hs,he,hf,hd,hw=>by
  cases c<;>simp [pU] at hk
  rename_i x
  have key:=hw (fun fr st=>∀ (E:Env) (w:World) (a:Act),bC E st w->Ext E0 st0 w0 E st w->aJ E N fr a->a.defers=[]->eS P x (kG N E0 st0 w0 Q) a w) (by
   intro bH aR fY ab9 Yk h' E' w' a' s1 s2 s3 s4
   obtain ⟨E1,c1,c0,c2⟩:=Yk.ok z1 z2 s1 s2
   refine eS.round (kD z1 z2 B x hk _ c1 c0 ⟨s3.size,fun t=>c2 t _ (s3.rel t)⟩ s4 h') ?_
   rintro a2 w2 ⟨Oq,Gl,E2,h1,h2,h3,h4,h5⟩
   exact h1 E2 w2 a2 h2 h3 h4 h5)
  exact (key E w a hs he hf hd).loop
 |.exit id,c,hk,Q,fr,st,E,w,a,hs,he,hf,hd,hw=>by
  cases c<;>simp [pU] at hk
  subst hk
  exact wp_exit ⟨fr,st,E,hw,hs,he,hf,hd⟩
 |.ret,c,hk,Q,fr,st,E,w,a,hs,he,hf,hd,hw=>by
  cases c<;>simp [pU] at hk
  exact wp_ret ⟨fr,st,E,hw,hs,he,hf,hd⟩
 |.no,c,hk,Q,fr,st,E,w,a,hs,he,hf,hd,hw=>hw.elim
end
section
variable {P:Program}
theorem SS {f:Nat} {F:aC} (hk:gB P f F=true) {args:List V} (hn:args.length=F.nparams) {h0:aA} {K:V->aA->Prop}
 (hw:HU h0.next (aB P) F.body (mK F.results K) (cI 0 args) (eR h0)):aB P f args h0 K:=by
 unfold gB at hk
 split at hk
 case h_2=>cases hk
 rename_i fn JM
 split at hk
 case h_2=>cases hk
 rename_i c hb
 simp only [Bool.and_eq_true,decide_eq_true_eq] at hk
 obtain ⟨⟨⟨k1,k2⟩,k3⟩,k4⟩:=hk
 refine ⟨k1,fun E w vs vY hs hv=>?_⟩
 refine calls_of_wp JM hb ?_
 have RR:=hv.1
 have DA:aJ E fn.ntmps (cI 0 args) { tmps:=vs++Array.replicate (fn.ntmps - vs.size) undef,defers:=[] }:=by
  refine ⟨by simp;omega,fun t=>?_⟩
  rw [gT,if_pos (Nat.zero_le _),Nat.sub_zero]
  by_cases ht:t<args.length
  · have h1:args[t]? =some args[t]:=by simp [ht]
    obtain ⟨x,hx,hr⟩:=hv.get h1
    have:(vs++Array.replicate (fn.ntmps - vs.size) undef).getD t undef=x:=by
     rw [Array.getD_eq_getD_getElem?,Array.getElem?_append_left (by omega),hx];rfl
    rw [this]
    simp only [List.getD_eq_getElem?_getD,h1,Option.getD_some]
    exact hr
  · simp only [List.getD_eq_getElem?_getD,List.getElem?_eq_none (Nat.le_of_not_lt ht),Option.getD_none]
    exact .a8 _
 refine wp_mono (kD (E0:=E) (st0:=eR h0) (w0:=w) hs.ng.symm vY F.body c k2 _ hs (.refl _ _ _) DA rfl hw) ?_
 have fin:∀ (a:Act) (w':World),BH fn.ntmps E (eR h0) w (fun fr st=>match rJ fr st F.results with|some v=>K v st.g|none=>False) a w'->
  a.defers=[]/\∃ v,(results fn a.tmps).run P w'=.ok v w'/\∃ v' x h' E',K v' h'/\Ending.returned v=.returned x/\E'.nl=0/\bC E' (eR h') w'/\Ext E (eR h0) w E' (eR h') w'/\Rel E' v' x:=by
  rintro a w' ⟨fr,st,E',hr,s1,s2,s3,s4⟩
  refine ⟨s4,?_⟩
  have FC:Ext E (eR h0) w E'.cut (eR st.g) w':=by
   have hl:∀ k,(eR st.g).live k->st.live k:=by
    intro k hk
    obtain ⟨n,rfl,o,ho⟩:=iR hk
    exact ⟨o,ho⟩
   refine ⟨⟨s2.le.gJ,s2.le.ng,by rw [vY];exact Nat.zero_le _,s2.le.loc⟩,s2.size,s2.eJ,fun k hk he=>s2.eF k (hl k hk) he,fun k hk he=>s2.eQ k (hl k hk) he,s2.same,s2.os,s2.out,s2.tape⟩
  unfold rJ at hr
  cases rT:jJ fr st F.results with
  |none=>rw [rT] at hr;exact hr.elim
  |some us=>
   obtain ⟨xs,ER,xP⟩:=yC (P:=P) s3 s1 fn.results.toList F.results us k3 rT
   have hm:(fn.results.mapM (fun
    |.tmp t=>pure (a.tmps.getD t undef)
    |.cell x t=>do loadVar t (<-asAddr (a.tmps.getD x undef)):ResultVar->Sem Value)).run P w'=.ok xs.toArray w':=by
    have e:fn.results=fn.results.toList.toArray:=by simp
    rw [e,List.mapM_toArray,map_eq_pure_bind]
    simp only [Sem.run_bind]
    erw [ER]
    simp only [Result.andThen_ok,Sem.run_pure]
   have hlen:=xP.1
   rw [rT] at hr
   match us,xs,hlen,xP,hr,hm with
   |[v],[x],_,xP,hr,hm=>
    refine ⟨x,?_,v,x,st.g,E'.cut,hr,rfl,rfl,s1.cut,FC,xP.2 0 v x rfl (by simp)⟩
    simp only [results,Sem.run_bind]
    exact dE hm (by simp)
   |[],[],_,xP,hr,hm=>
    refine ⟨.tuple #[],?_,.bO [],.tuple #[],st.g,E'.cut,hr,rfl,rfl,s1.cut,FC,dN⟩
    simp only [results,Sem.run_bind]
    exact dE hm (by simp)
   |v1::v2::vr,x1::x2::xr,_,xP,hr,hm=>
    refine ⟨.tuple (x1::x2::xr).toArray,?_,.bO (v1::v2::vr),_,st.g,E'.cut,hr,rfl,rfl,s1.cut,FC,.bO _ _ xP.1 xP.2⟩
    simp only [results,Sem.run_bind]
    exact dE hm (by simp)
 intro e a w' hq
 cases e with
 |normal=>exact fin a w' hq
 |ret=>exact fin a w' hq
 |exit id=>obtain ⟨fr,st,E',h1,_⟩:=hq;exact h1.elim
 |goto l=>exact hq.elim
 |panic ch=>exact hq.elim
 |outgrown=>exact hq.elim
theorem SU {f:Nat} {F:aC} (hk:gB P f F=true) {args:List V} (hn:args.length=F.nparams) {K:V->aA->Prop}
 (hw:HU 0 (aB P) F.body (mK F.results K) (cI 0 args) (eR zK)):aB P f args zK K:=SS hk hn hw
end
open Go
structure SV (N:Nat) (A:aX) (b:AC) (ib:DY) (Q:Ex->Fr->St->Prop) (fr:Fr) (st:St):Prop where
 h:∀ R:Fr->St->Prop,(∀ fr st bH aR,Pk N fr st bH aR->ib (mJ R Q) bH aR->R fr st)->R fr st
noncomputable def Ul (N:Nat) (A:aX) (c:AC):DY:=
 AC.rec (motive:=fun _=>DY) (fun Q fr st=>Q .normal fr st) (fun ops Q fr st=>(kV ops fr st).sq A (jN Q)) (fun ds kill Q fr st=>((Bf ds [] fr st).bq (qS kill)).sq A (jN Q))
  (fun _ _ ia ib Q fr st=>ia (mJ (ib Q) Q) fr st)
  (fun c _ _ ia ib Q fr st=>match c.ev fr with
    |.b x=>jC x (ia Q fr st) (ib Q fr st)
    |_=>False)
  (fun id _ ib Q fr st=>ib (gA id Q) fr st) (fun b ib Q fr st=>SV N A b ib Q fr st) (fun id Q fr st=>Q (.exit id) fr st) (fun Q fr st=>Q .ret fr st) (fun _ _ _=>False) c
theorem KX (N:Nat) (A:aX) (c:aV) (a b:AC) (Q:Ex->Fr->St->Prop) (fr:Fr) (st:St):Ul N A (.cond c a b) Q fr st=match c.ev fr with
 |.b x=>jC x (Ul N A a Q fr st) (Ul N A b Q fr st)
 |_=>False:=rfl
theorem rD {N:Nat} {A:aX} (hA:A.s7):∀ (c:AC) (Q Q':Ex->Fr->St->Prop) (fr:Fr) (st:St),Ul N A c Q fr st->(∀ e fr st,Q e fr st->Q' e fr st)->HU N A c Q' fr st
 |.skip,Q,Q',fr,st,h,hq=>hq _ _ _ h
 |.Gb ops,Q,Q',fr,st,h,hq=>by
  have h:(kV ops fr st).sq A (jN Q):=h
  rw [T.Rw] at h
  exact T.wp_mono hA (fun ⟨_,_⟩ h=>hq _ _ _ h) (rC hA ops fr st _ (T.uS hA _ _ h))
 |.vD ds kill,Q,Q',fr,st,h,hq=>by
  refine T.wp_mono hA (fun ⟨_,_⟩ h=>hq _ _ _ h) (?_:T.wp A _ (jN Q))
  have h:((Bf ds [] fr st).bq (qS kill)).sq A (jN Q):=h
  rw [T.Rw,T.Be] at h
  have h:=T.uS hA _ _ h
  rw [T.wp_bind] at h ⊢
  exact yV hA _ _ _ _ _ h
 |.seq a b,Q,Q',fr,st,h,hq=>by
  refine rD hA a _ _ fr st h ?_
  intro e fr st h
  cases e with
  |normal=>exact rD hA b _ _ fr st h hq
  |exit id=>exact hq _ _ _ h
  |ret=>exact hq _ _ _ h
 |.cond c a b,Q,Q',fr,st,h,hq=>by
  rw [KX] at h
  simp only [HU]
  split at h
  · rename_i x hx
    try rw [hx]
    exact ⟨fun hc=>rD hA a _ _ _ _ (h.t hc) hq,fun hc=>rD hA b _ _ _ _ (h.f hc) hq⟩
  · exact h.elim
 |.aW id b,Q,Q',fr,st,h,hq=>by
  refine rD hA b _ _ fr st h ?_
  intro e fr st h
  cases e with
  |normal=>exact hq _ _ _ h
  |exit Ad=>
   simp only [gA] at h ⊢
   split
   · rename_i hi;rw [if_pos hi] at h;exact hq _ _ _ h
   · rename_i hi;rw [if_neg hi] at h;exact hq _ _ _ h
  |ret=>exact hq _ _ _ h
 |.loop b,Q,Q',fr,st,h,hq=>by
  intro R hR
  refine h.h R fun fr st bH aR hl hx=>hR fr st bH aR hl ?_
  refine rD hA b _ _ bH aR hx ?_
  intro e fr st h
  cases e with
  |normal=>exact h
  |exit id=>exact hq _ _ _ h
  |ret=>exact hq _ _ _ h
 |.exit id,Q,Q',fr,st,h,hq=>hq _ _ _ h
 |.ret,Q,Q',fr,st,h,hq=>hq _ _ _ h
 |.no,_,_,_,_,h,_=>h.elim
theorem VG {P:Program} {f:Nat} {F:aC} (hk:gB P f F=true) {args:List V} (hn:args.length=F.nparams) {K:V->aA->Prop}
 (hw:(cI 0 args).fS fun fr=>Ul 0 (aB P) F.body (mK F.results K) fr (eR zK)):aB P f args zK K:=by
 rw [Fr.oC] at hw
 exact SU hk hn (rD (aB.mono P) _ _ _ _ _ hw fun _ _ _ h=>h)
open Go
theorem KY {v:V} (h:v.flat=true) (ρ:Ren):v.FJ ρ=v:=by
 cases v<;>simp [V.flat] at h<;>(try rfl)
 case sl t z e=>cases t<;>first|rfl|simp at h
theorem Pm {v:V} (h:v.flat=true) (b:pD):v.Ya b:=by
 cases v<;>simp [V.flat] at h<;>(try trivial)
 case sl t z e=>cases t<;>first|trivial|simp at h
theorem GS {ρ:Ren} {b:pD} {F:Fz} {v:V} (h:v.flat=true):Ce ρ b F v v:=.IQ (KY h ρ).symm (Pm h b)
theorem sP {ρ:Ren} {b:pD} {F:Fz}:∀ {l:List V},l.all V.flat=true->DZ ρ b F l l
 |[],_=>trivial
 |v::r,h=>by
  simp only [List.all_cons,Bool.and_eq_true] at h
  exact ⟨GS h.1,sP h.2⟩
theorem D1 {ρ:Ren} {b:pD} {F:Fz} {v:V} (h:v.mT=true):SQ ρ b F v v:=by
 cases v
 case agg cs=>exact .inr (.inl ⟨cs,cs,rfl,rfl,sP h⟩)
 case fn f a c=>
  simp only [V.mT,Bool.and_eq_true] at h
  exact .inr (.inr ⟨f,a,c,a,c,rfl,rfl,sP h.1,sP h.2⟩)
 all_goals exact .inl (GS h)
theorem Bg {ρ:Ren} {b:pD} {F:Fz}:∀ {l:List V},l.all V.mT=true->HS ρ b F l l
 |[],_=>trivial
 |v::r,h=>by
  simp only [List.all_cons,Bool.and_eq_true] at h
  exact ⟨D1 h.1,Bg h.2⟩
theorem KZ {ρ:Ren} {b:pD} {F:Fz} {v:V} (h:v.free=true):Uj ρ b F v v:=by
 cases v
 case bO cs=>exact .inr ⟨cs,cs,rfl,rfl,Bg h⟩
 all_goals exact .inl (D1 h)
theorem Cd {st:St}:Am st Pf:=fun k sz ds h=>by cases h
theorem HV {ρ:Ren} {b:pD} {F:Fz} {t:Option Key} {sz:Nat} {es:List (List V)}:Uj ρ b F (.sl t sz es) (.sl none sz es):=by
 cases t with
 |none=>exact .inl (.inl (.IQ rfl trivial))
 |some k=>exact .inl (.inl .tok)
theorem Pn {ρ:Ren} {b:pD} {F:Fz} {sz:Nat}:Uj ρ b F .bU (.sl none sz []):=.inl (.inl .nil)
def IN:St:=⟨zK,⟨1,[(0,.spare)]⟩⟩
def Cf (Q:V->Prop) (v:V) (h':aA):Prop:=∃ ρ F u,Rx ρ F [(0,v)] (eR h') [(0,u)] (eR zK)/\u.free=true/\Q u
theorem Cg {ρ:Ren} {F:Fz} {v u:V} {h':aA} (hz:Am (eR h') F) (hc:Uj ρ ⟨0,0⟩ F v u):Rx ρ F [(0,v)] (eR h') [(0,u)] (eR zK):=by
 refine ⟨hz,fun k k' hk=>absurd hk bX,fun k o hk=>absurd ⟨o,hk⟩ bX,fun t=>?_⟩
 simp only [Fr.get]
 split
 · exact hc
 · exact .inl (.inl .a8)
def FJ:Ren:=⟨id,id⟩
theorem tZ {Q:V->Prop} {v:V} {h':aA} (hf:v.free=true) (hq:Q v):Cf Q v h':=⟨FJ,Pf,v,Cg Cd (KZ hf),hf,hq⟩
theorem D2 {Q:V->Prop} {t:Option Key} {sz:Nat} {es:List (List V)} {h':aA} (hq:Q (.sl none sz es)):Cf Q (.sl t sz es) h':=⟨FJ,Pf,_,Cg Cd HV,rfl,hq⟩
theorem pure_nil {Q:V->Prop} {sz:Nat} {h':aA} (hq:Q (.sl none sz [])):Cf Q .bU h':=⟨FJ,Pf,_,Cg Cd Pn,rfl,hq⟩
theorem Ch {P:Program} {f:Nat} {F:aC} (hk:gB P f F=true) {args:List V} (hn:args.length=F.nparams) {Q:V->Prop}
 (hw:(cI 0 args).fS fun fr=>Ul 0 (aB P) F.body (mK F.results (Cf Q)) fr (eR zK)):Pure P f args Q:=VG hk hn hw
theorem An {v:V} (h:v.mT=true):v.free=true:=by
 cases v<;>first|exact h|simp [V.mT,V.flat] at h
theorem K1 {l:List V} (h:l.all V.mT=true):l.all V.free=true:=by
 rw [List.all_eq_true] at h ⊢
 exact fun x hx=>An (h x hx)
theorem Pure.go {P:Program} {f:Nat} {args:List V} {u:V} (h0:Pure P f args (·=u)) (ha:args.all V.mT=true) {h:aA} {K:V->aA->Prop} (hK:K u h):aB P f args h K:=
 h0.use (K1 ha) fun v _ hv=>hv▸hK
open Go
def yX {α:Type} (x:R) (k:V->St->α):α:=
 match x with
 |(v,st)=>v.f3 fun v=>k v st
theorem D4 {α:Type} (v:V) (st:St) (k:V->St->α):yX (v,st) k=k v st:=by
 simp only [yX,V.KT]
abbrev uA (o:pQ) (fr:Fr) (st:St):T R:=fK o fr st
theorem D5 {A:aX} {o:pQ} {fr:Fr} {st:St} {K:R->Prop} (h:(uA o fr st).wp A K):(step o fr st).wp A K:=sG h
noncomputable def T.sv {α:Type} (A:aX) (t:T α):(α->Prop)->Prop:=
 T.rec (motive:=fun _=>(α->Prop)->Prop) (fun a K=>K a) (fun c _ _ it ie K=>jC c (it K) (ie K)) (fun o _ ih K=>p9 o fun x=>ih x K) (fun o _ ih K=>p9 o fun x=>ih x K) (fun o _ ih K=>p9 o fun x=>ih x K)
  (fun o _ ih K=>p9 o fun x=>ih x K) (fun o _ ih K=>p9 o fun x=>Obj.fS x fun x=>ih x K) (fun o _ _ CX ih K=>mL o (CX K) fun x=>ih x K) (fun c _ ih K=>eT c (ih K)) (fun kd n _ ih K=>dY kd n fun x=>ih x K) (fun _ ih K=>HM fun r=>ih r K)
  (fun v u _ ih K=>uQ v u (ih K)) (fun f aeN h _ ih K=>nT A f aeN h fun r h'=>ih r h' K) (fun _=>False) t
theorem T.GU {α:Type} (A:aX) (t:T α):∀ K,t.sv A K=t.sp A K:=by
 induction t with
 |ret a=>exact fun K=>rfl
 |ite c t e I6 I7=>intro K;show jC c (t.sv A K) (e.sv A K)=_;rw [I6,I7];rfl
 |elem o k ih=>intro K;show (p9 o fun x=>(k x).sv A K)=_;simp only [ih];rfl
 |byte o k ih=>intro K;show (p9 o fun x=>(k x).sv A K)=_;simp only [ih];rfl
 |eU o k ih=>intro K;show (p9 o fun x=>(k x).sv A K)=_;simp only [ih];rfl
 |CQ o k ih=>intro K;show (p9 o fun x=>(k x).sv A K)=_;simp only [ih];rfl
 |obj o k ih=>intro K;show (p9 o fun x=>Obj.fS x fun x=>(k x).sv A K)=_;simp only [Obj.oC,ih];rfl
 |jR o n k CX ih=>intro K;show (mL o (n.sv A K) fun x=>(k x).sv A K)=_;simp only [CX,ih];rfl
 |jE c k ih=>intro K;show eT c (k.sv A K)=_;rw [ih];rfl
 |wrap kd n k ih=>intro K;show (dY kd n fun x=>(k x).sv A K)=_;simp only [ih];rfl
 |any k ih=>intro K;show (HM fun x=>(k x).sv A K)=_;simp only [ih];rfl
 |same v u k ih=>intro K;show uQ v u (k.sv A K)=_;rw [ih];rfl
 |call f aeN h k ih=>intro K;show (nT A f aeN h fun r h'=>(k r h').sv A K)=_;simp only [ih];rfl
 |fail=>exact fun K=>rfl
abbrev Pp:=Fr->St->T (Fr×St)
noncomputable def Ym (o:cD) (ih:Pp):Pp:=fun fr st=>
 match o.guard with
 |none=>(uA o.op fr st).bq fun x=>yX x fun v st=>fr.after o.dst v o.kill fun fr=>ih fr st
 |some (t,want)=>match fr.get t with
  |.b x=>match want with
   |true=>.ite x
    (fr.cut [t] fun r=>(uA o.op ((t,.b true)::r) st).bq fun x=>yX x fun v st=>Fr.after ((t,.b true)::r) o.dst v o.kill fun fr=>ih fr st)
    (fr.cut [t] fun r=>Fr.after ((t,.b false)::r) o.dst (.bO []) o.kill fun fr=>ih fr st)
   |false=>.ite x
    (fr.cut [t] fun r=>Fr.after ((t,.b true)::r) o.dst (.bO []) o.kill fun fr=>ih fr st)
    (fr.cut [t] fun r=>(uA o.op ((t,.b false)::r) st).bq fun x=>yX x fun v st=>Fr.after ((t,.b false)::r) o.dst v o.kill fun fr=>ih fr st)
  |.bO _=>fr.after o.dst (.bO []) o.kill fun fr=>ih fr st
  |_=>.fail
noncomputable def jP (l:List cD):Pp:=
 List.rec (motive:=fun _=>Pp) (fun fr st=>.ret (fr,st)) (fun o _ ih=>Ym o ih) l
theorem Ci (o:cD) (l:List cD):jP (o::l)=Ym o (jP l):=rfl
theorem kE {A:aX} (hA:A.s7):∀ (ops:List cD) (fr:Fr) (st:St) (K:Fr×St->Prop),(jP ops fr st).wp A K->(cM ops fr st).wp A K
 |[],fr,st,K,h=>h
 |o::rest,fr,st,K,h=>by
  have one:∀ {fY:Fr},((uA o.op fY st).bq fun x=>yX x fun v st=>fY.after o.dst v o.kill fun fr=>jP rest fr st).wp A K->((step o.op fY st).bind fun x=>match x with
   |(v,st)=>fY.after o.dst v o.kill fun fr=>cM rest fr st).wp A K:=by
   intro fY h
   rw [T.Be,T.wp_bind] at h
   rw [T.wp_bind]
   refine D5 ?_
   revert h
   refine T.wp_mono hA ?_
   rintro ⟨v,st⟩ h
   dsimp only at h ⊢
   rw [D4,Fr.bJ] at h
   rw [Fr.bJ]
   exact kE hA rest _ _ K h
  have two:∀ {fY:Fr},(fY.after o.dst (.bO []) o.kill fun fr=>jP rest fr st).wp A K->(fY.after o.dst (.bO []) o.kill fun fr=>cM rest fr st).wp A K:=by
   intro fY h
   rw [Fr.bJ] at h ⊢
   exact kE hA rest _ _ K h
  rw [Ci] at h
  obtain ⟨dst,op,g,kill⟩:=o
  cases g with
  |none=>exact one h
  |some q=>
   obtain ⟨t,want⟩:=q
   simp only [Ym] at h
   simp only [cM]
   generalize fr.get t=v at h ⊢
   cases v<;>(try exact h)
   case b x=>
    cases want
    · refine ⟨fun hc=>?_,fun hc=>?_⟩
      · have h:=h.1 hc
        rw [Fr.bL] at h ⊢
        exact two h
      · have h:=h.2 hc
        rw [Fr.bL] at h ⊢
        exact one h
    · refine ⟨fun hc=>?_,fun hc=>?_⟩
      · have h:=h.1 hc
        rw [Fr.bL] at h ⊢
        exact one h
      · have h:=h.2 hc
        rw [Fr.bL] at h ⊢
        exact two h
   case bO vs=>exact two h
abbrev GV:=List aF->Fr->St->T (Fr×St)
noncomputable def SX (d:aF) (ih:GV):GV:=fun done fr st=>lL d.o.guard fr
 (fun fr=>(uA d.o.op fr st).bq fun x=>yX x fun v st=>fr.after d.o.dst v [] fun fr=>recheck d.re done fr st (ih (d::done) fr st))
 (fun fr=>fr.after d.o.dst (.bO []) [] fun fr=>ih (d::done) fr st)
noncomputable def D6 (l:List aF):GV:=
 List.rec (motive:=fun _=>GV) (fun _ fr st=>.ret (fr,st)) (fun d _ ih=>SX d ih) l
theorem FY (o:aF) (l:List aF):D6 (o::l)=SX o (D6 l):=rfl
theorem yY {A:aX} (hA:A.s7):∀ (ds done:List aF) (fr:Fr) (st:St) (K:Fr×St->Prop),(D6 ds done fr st).wp A K->(eN done ds fr st).wp A K
 |[],done,fr,st,K,h=>h
 |d::rest,done,fr,st,K,h=>by
  rw [FY] at h
  simp only [SX] at h
  simp only [eN]
  refine qW (fun fr h=>?_) (fun fr h=>?_) h
  · rw [T.Be,T.wp_bind] at h
    rw [T.wp_bind]
    refine D5 ?_
    refine T.wp_mono hA ?_ h
    rintro ⟨v,st⟩ h
    dsimp only at h ⊢
    rw [D4,Fr.bJ] at h
    rw [Fr.bJ]
    exact eL hA (fun h=>yY hA rest _ _ _ K h) h
  · rw [Fr.bJ] at h ⊢
    exact yY hA rest _ _ _ K h
abbrev K2:=(Ex->Fr->St->Prop)->Fr->St->Prop
structure SY (A:aX) (b:AC) (ib:K2) (Q:Ex->Fr->St->Prop) (fr:Fr) (st:St):Prop where
 h:uR (fun R=>ib (mJ R Q)) fr st
noncomputable def RA (A:aX) (c:AC):K2:=
 AC.rec (motive:=fun _=>K2) (fun Q fr st=>Q .normal fr st) (fun ops Q fr st=>(jP ops fr st).sv A (jN Q)) (fun ds kill Q fr st=>((D6 ds [] fr st).bq (qS kill)).sv A (jN Q))
  (fun _ _ ia ib Q fr st=>ia (mJ (ib Q) Q) fr st)
  (fun c _ _ ia ib Q fr st=>match c.ev fr with
    |.b x=>jC x (ia Q fr st) (ib Q fr st)
    |_=>False)
  (fun id _ ib Q fr st=>ib (gA id Q) fr st) (fun b ib Q fr st=>SY A b ib Q fr st) (fun id Q fr st=>Q (.exit id) fr st) (fun Q fr st=>Q .ret fr st) (fun _ _ _=>False) c
theorem K3 (A:aX) (c:aV) (a b:AC) (Q:Ex->Fr->St->Prop) (fr:Fr) (st:St):RA A (.cond c a b) Q fr st=match c.ev fr with
 |.b x=>jC x (RA A a Q fr st) (RA A b Q fr st)
 |_=>False:=rfl
theorem oD {A:aX} (hA:A.s7):∀ (c:AC) (Q Q':Ex->Fr->St->Prop) (fr:Fr) (st:St),RA A c Q fr st->(∀ e fr st,Q e fr st->Q' e fr st)->pT A c Q' fr st
 |.skip,Q,Q',fr,st,h,hq=>hq _ _ _ h
 |.Gb ops,Q,Q',fr,st,h,hq=>by
  have h:(jP ops fr st).sv A (jN Q):=h
  rw [T.GU] at h
  exact T.wp_mono hA (fun ⟨_,_⟩ h=>hq _ _ _ h) (kE hA ops fr st _ (T.uS hA _ _ h))
 |.vD ds kill,Q,Q',fr,st,h,hq=>by
  refine T.wp_mono hA (fun ⟨_,_⟩ h=>hq _ _ _ h) (?_:T.wp A _ (jN Q))
  have h:((D6 ds [] fr st).bq (qS kill)).sv A (jN Q):=h
  rw [T.GU,T.Be] at h
  have h:=T.uS hA _ _ h
  rw [T.wp_bind] at h ⊢
  exact yY hA _ _ _ _ _ h
 |.seq a b,Q,Q',fr,st,h,hq=>by
  refine oD hA a _ _ fr st h ?_
  intro e fr st h
  cases e with
  |normal=>exact oD hA b _ _ fr st h hq
  |exit id=>exact hq _ _ _ h
  |ret=>exact hq _ _ _ h
 |.cond c a b,Q,Q',fr,st,h,hq=>by
  rw [K3] at h
  simp only [pT]
  split at h
  · rename_i x hx
    rw [hx]
    exact ⟨fun hc=>oD hA a _ _ _ _ (h.t hc) hq,fun hc=>oD hA b _ _ _ _ (h.f hc) hq⟩
  · exact h.elim
 |.aW id b,Q,Q',fr,st,h,hq=>by
  refine oD hA b _ _ fr st h ?_
  intro e fr st h
  cases e with
  |normal=>exact hq _ _ _ h
  |exit Ad=>
   simp only [gA] at h ⊢
   split
   · rename_i hi;rw [if_pos hi] at h;exact hq _ _ _ h
   · rename_i hi;rw [if_neg hi] at h;exact hq _ _ _ h
  |ret=>exact hq _ _ _ h
 |.loop b,Q,Q',fr,st,h,hq=>by
  intro R hR
  refine h.h.h R fun fr bH st hl hx=>hR fr bH st hl ?_
  refine oD hA b _ _ bH st hx ?_
  intro e fr st h
  cases e with
  |normal=>exact h
  |exit id=>exact hq _ _ _ h
  |ret=>exact hq _ _ _ h
 |.exit id,Q,Q',fr,st,h,hq=>hq _ _ _ h
 |.ret,Q,Q',fr,st,h,hq=>hq _ _ _ h
 |.no,_,_,_,_,h,_=>h.elim
open Go Go.ChangeMaps
def St.ins (st:St) (k:Key) (o:Obj):St:=
 match k with
 |.g n=>⟨⟨st.g.next,(n,o)::st.g.CP⟩,st.l⟩
 |.l n=>⟨st.g,⟨st.l.next,(n,o)::st.l.CP⟩⟩
theorem St.sU (st:St) (k k':Key) (o:Obj):(st.ins k o).get k'=if k'=k then some o else st.get k':=by
 cases k<;>cases k'<;>simp [St.ins,St.get,aA.get,aA.find,eq_comm]
structure St.H2 (a b:St):Prop where
 g:a.g.next=b.g.next
 l:a.l.next=b.l.next
 get:∀ k,a.get k=b.get k
theorem St.H2.live {a b:St} (h:St.H2 a b) {k:Key}:a.live k↔b.live k:=by unfold St.live;rw [h.get]
theorem bC.same {E:Env} {a b:St} {w:World} (hs:bC E a w) (h:St.H2 b a):bC E b w:=
 ⟨h.g.trans hs.ng,h.l.trans hs.nl,fun k hk=>hs.g9 k (h.live.1 hk),hs.gJ,fun k o hk=>hs.obj k o (by rw [<-h.get];exact hk),fun k k' hk jG=>hs.sep k k' (h.live.1 hk) (h.live.1 jG),fun k hk=>hs.own k (h.live.1 hk)⟩
theorem Ext.Ld {E:Env} {st:St} {w:World} {E':Env} {a b:St} {w':World} (he:Ext E st w E' a w') (h:St.H2 b a):Ext E st w E' b w':=
 ⟨he.le,he.size,he.eJ,fun k hk=>he.eF k (h.live.1 hk),fun k hk=>he.eQ k (h.live.1 hk),he.same,he.os,he.out,he.tape⟩
theorem St.Bl {h lo:aA} {mk:Nat} {o:Obj} (hm:h.get mk=some o):St.H2 ⟨h,lo⟩ (St.ins ⟨h.remove mk,lo⟩ (.g mk) o):=by
 refine ⟨rfl,rfl,fun k=>?_⟩
 rw [St.sU]
 split
 · rename_i e;subst e;exact hm
 · rename_i e
   cases k with
   |g n=>
    show h.get n=(h.remove mk).get n
    rw [aA.eX,if_neg fun c=>e (by rw [c])]
   |l n=>rfl
def St.zD (st:St):St:=⟨st.g,⟨st.l.next+1,st.l.CP⟩⟩
theorem St.sV (st:St) (k:Key):st.zD.get k=st.get k:=by cases k<;>rfl
theorem St.iN {st:St} {k:Key}:st.zD.live k↔st.live k:=by unfold St.live;rw [St.sV]
abbrev Env.aside (E:Env) (r:Nat):Env:=E.push false ⟨r,0,0⟩ fun _ _=>none
theorem Env.wU (E:Env) (r b o:Nat):(E.aside r).I b o=E.I b o:=by
 simp only [Env.aside,Env.push]
 cases E.I b o<;>rfl
theorem Env.sW (E:Env) (r:Nat):E.Le (E.aside r):=Env.kK _ _ _ _
theorem Env.lY {E:Env} {r:Nat} {k:Key} (hk:E.has k):(E.aside r).μ k=E.μ k:=(E.sW r).loc k hk
theorem bC.aside {E:Env} {st:St} {w w':World} (h:bC E st w) {ob:Go.Obj} (hh:w'.heap=w.heap.push ob):bC (E.aside w.heap.size) st.zD w':=by
 have hle:=E.sW w.heap.size
 have hold:∀ b,b<w.heap.size->w'.heap[b]? =w.heap[b]? :=fun b hb=>by rw [hh,Array.getElem?_push,if_neg (by omega)]
 have cQ:∀ b o x,aT w b o=some x->b<w.heap.size:=by
  intro b o x hx
  rcases Nat.lt_or_ge b w.heap.size with hl|hl
  · exact hl
  · simp [aT,Array.getElem?_eq_none hl] at hx
 refine ⟨h.ng,?_,fun k hk=>hle.has (h.g9 k (St.iN.1 hk)),fun b o x hx=>?_,fun k o hk=>?_,fun k k' hk jG cO=>?_,fun k hk j h1 h2=>?_⟩
 · show st.l.next+1=E.nl+1
   rw [h.nl]
 · rw [Env.wU] at hx
   have:=h.gJ b o x hx
   simp only [aT,hold b (cQ _ _ _ this)] at*
   exact this
 · rw [St.sV] at hk
   have hl:st.live k:=⟨o,hk⟩
   have:=h.obj k o hk
   rw [Env.lY (h.g9 k hl)]
   exact Holds.lM (Env.gK hle k) (hold _ (h.lt hl)) this
 · have h1:=St.iN.1 hk
   have h2:=St.iN.1 jG
   rw [Env.lY (h.g9 k h1),Env.lY (h.g9 k' h2)]
   exact h.sep k k' h1 h2 cO
 · have hl:=St.iN.1 hk
   rw [Env.lY (h.g9 k hl)] at h1 h2 ⊢
   rw [Env.wU]
   exact h.own k hl j h1 h2
theorem Ext.aside {E0:Env} {st0:St} {w0:World} {E:Env} {st:St} {w w':World} (he:Ext E0 st0 w0 E st w) (hs:bC E st w) {ob:Go.Obj} (hh:w'.heap=w.heap.push ob) (h1:w'.os=w.os) (h2:w'.output=w.output) (h3:w'.tape=w.tape):
 Ext E0 st0 w0 (E.aside w.heap.size) st.zD w':=by
 refine he.trans ⟨E.sW _,by rw [hh];simp,fun b o x hx=>.inl (by rwa [Env.wU] at hx),fun k hk _=>St.iN.1 hk,fun k hk hn=>absurd (hs.g9 k (St.iN.1 hk)) hn,fun b hb _=>?_,h1,h2,h3⟩
 rw [hh,Array.getElem?_push,if_neg (by omega)]
theorem bC.less {E:Env} {st:St} {w:World} (h:bC E st w) (k:Key):bC E (st.remove k) w:=by
 have hg:∀ k' o,(st.remove k).get k'=some o->st.get k'=some o:=by
  intro k' o ho
  rw [St.eX] at ho
  split at ho
  · cases ho
  · exact ho
 have hl:∀ k',(st.remove k).live k'->st.live k':=fun k' ⟨o,ho⟩=>⟨o,hg k' o ho⟩
 refine ⟨?_,?_,fun k' hk=>h.g9 k' (hl k' hk),h.gJ,fun k' o hk=>h.obj k' o (hg k' o hk),fun k1 k2 h1 h2=>h.sep k1 k2 (hl _ h1) (hl _ h2),fun k' hk=>h.own k' (hl _ hk)⟩
 · rw [<-h.ng];cases k<;>rfl
 · rw [<-h.nl];cases k<;>rfl
theorem bC.OQ {E:Env} {st:St} {w w':World} (h:bC E st w) {r:Nat} (hb:∀ b,b≠r->w'.heap[b]? =w.heap[b]?) (hk:∀ k,st.live k->(E.μ k).aW≠r) (hi:∀ j,E.I r j=none):bC E st w':=by
 refine ⟨h.ng,h.nl,h.g9,fun b o x hx=>?_,fun k o ho=>Holds.lM (.refl _) (hb _ (hk k ⟨o,ho⟩)) (h.obj k o ho),h.sep,h.own⟩
 by_cases hbr:b=r
 · subst hbr;rw [hi] at hx;cases hx
 · have:=h.gJ b o x hx
   simp only [aT,hb b hbr] at*
   exact this
structure H3 (mk pN:Key) (kd:Option IntKind) (es:List (V×V)) (aP:Array MapEntry) (clock r:Nat) (E:Env) (st:St) (w:World) (seen:Array Nat):Prop where
 hm:E.has mk
 hi:E.has pN
 ei:E.μ pN=⟨r,0,0⟩
 bm:w.heap[(E.μ mk).aW]? =some (.map aP clock)
 it:w.heap[r]? =some (.mapIter (some (E.μ mk).aW) clock seen clock)
 bo:vE aP clock
 sz:aP.size=es.length
 rel:∀ (j:Nat) (q:V×V) (e:MapEntry),es[j]? =some q->aP[j]? =some e->cV E.I q.1 e.key/\q.1.cB kd=true/\Rel (E.at mk) q.2 e.val
 apart:∀ k,st.live k->(E.μ k).aW≠(E.μ mk).aW/\(E.μ k).aW≠r
 own:∀ j,(E.μ mk).base<=j->j<(E.μ mk).fin->E.I (E.μ mk).aW j=none
theorem H3.step {mk pN:Key} {kd:Option IntKind} {es:List (V×V)} {aP:Array MapEntry} {clock r:Nat} {E:Env} {st:St} {w:World} {seen:Array Nat} (h:H3 mk pN kd es aP clock r E st w seen)
 {E':Env} {aR:St} {w':World} (he:Ext E st w E' aR w'):H3 mk pN kd es aP clock r E' aR w' seen:=by
 have e1:=he.le.loc mk h.hm
 have l1:(E.μ mk).aW<w.heap.size:=(Array.getElem?_eq_some_iff.1 h.bm).1
 have l2:r<w.heap.size:=(Array.getElem?_eq_some_iff.1 h.it).1
 refine ⟨he.le.has h.hm,he.le.has h.hi,(he.le.loc pN h.hi).trans h.ei,?_,?_,h.bo,h.sz,fun j q e h1 h2=>?_,fun k hk=>?_,fun j h1 h2=>?_⟩
 · rw [e1,he.same _ l1 fun k hk=>(h.apart k hk).1];exact h.bm
 · rw [e1,he.same _ l2 fun k hk=>(h.apart k hk).2];exact h.it
 · obtain ⟨a,b,c⟩:=h.rel j q e h1 h2
   exact ⟨a.mono he.le.gJ,b,c.mono (Env.gK he.le mk)⟩
 · rw [e1]
   by_cases hh:E.has k
   · rw [he.le.loc k hh];exact h.apart k (he.eF k hk hh)
   · rcases he.eQ k hk hh with h1|⟨k0,h1,h2⟩
     · exact ⟨by omega,by omega⟩
     · rw [<-h2];exact h.apart k0 h1
 · rw [e1] at h1 h2 ⊢
   cases hx:E'.I (E.μ mk).aW j with
   |none=>rfl
   |some x=>
    rcases he.eJ _ _ _ hx with h3|h3|⟨k,h3,h4⟩
    · rw [h.own j h1 h2] at h3;cases h3
    · omega
    · exact absurd h4 (h.apart k h3).1
theorem H3.back {mk pN:Key} {kd:Option IntKind} {es:List (V×V)} {aP:Array MapEntry} {clock r:Nat} {E:Env} {st:St} {w:World} {seen:Array Nat} (h:H3 mk pN kd es aP clock r E st w seen) (hs:bC E st w):bC E (st.ins mk (.mp kd es)) w:=by
 have hl:∀ k,(st.ins mk (.mp kd es)).live k->k=mk\/k≠mk/\st.live k:=by
  rintro k ⟨o,ho⟩
  rw [St.sU] at ho
  split at ho
  · exact .inl ‹_›
  · exact .inr ⟨‹_›,o,ho⟩
 refine ⟨?_,?_,fun k hk=>?_,hs.gJ,fun k o ho=>?_,fun k k' hk jG cO=>?_,fun k hk j h1 h2=>?_⟩
 · rw [<-hs.ng];cases mk<;>rfl
 · rw [<-hs.nl];cases mk<;>rfl
 · rcases hl k hk with rfl|⟨_,h1⟩
   · exact h.hm
   · exact hs.g9 k h1
 · rw [St.sU] at ho
   split at ho
   · rename_i hk
     cases ho
     subst hk
     exact ⟨aP,clock,h.bm,h.sz,fun j q e h1 h2=>by
      obtain ⟨a,b,c⟩:=h.rel j q e h1 h2
      exact ⟨by cases k<;>exact a,b,c⟩,h.bo⟩
   · exact hs.obj k o ho
 · rcases hl k hk with rfl|⟨_,h1⟩<;>rcases hl k' jG with rfl|⟨_,h2⟩
   · exact absurd rfl cO
   · exact Ne.symm (h.apart k' h2).1
   · exact (h.apart k h1).1
   · exact hs.sep k k' h1 h2 cO
 · rcases hl k hk with rfl|⟨_,h3⟩
   · exact h.own j h1 h2
   · exact hs.own k h3 j h1 h2
theorem Ext.ins {E:Env} {st:St} {w:World} {E':Env} {aR:St} {w':World} (he:Ext E st w E' aR w') {mk:Key} (o:Obj) (hm:E.has mk):Ext E (st.ins mk o) w E' (aR.ins mk o) w':=by
 have hl:∀ (a:St) k,(a.ins mk o).live k↔k=mk\/a.live k:=by
  intro a k
  unfold St.live
  rw [St.sU]
  split
  · rename_i h;simp [h]
  · rename_i h;simp [h]
 refine ⟨he.le,he.size,fun b j x hx=>?_,fun k hk hh=>?_,fun k hk hh=>?_,fun b hb hn=>he.same b hb fun k hk=>hn k ((hl st k).2 (.inr hk)),he.os,he.out,he.tape⟩
 · rcases he.eJ b j x hx with h1|h1|⟨k,h1,h2⟩
   · exact .inl h1
   · exact .inr (.inl h1)
   · exact .inr (.inr ⟨k,(hl st k).2 (.inr h1),h2⟩)
 · rcases (hl aR k).1 hk with rfl|h1
   · exact (hl st k).2 (.inl rfl)
   · exact (hl st k).2 (.inr (he.eF k h1 hh))
 · rcases (hl aR k).1 hk with rfl|h1
   · exact absurd hm hh
   · rcases he.eQ k h1 hh with h2|⟨k0,h2,h3⟩
     · exact .inl h2
     · exact .inr ⟨k0,(hl st k0).2 (.inr h2),h3⟩
def lZ (es:List (V×V)) (aP:Array MapEntry) (seen:Array Nat):List (V×V):=((es.zip aP.toList).filter fun p=>!seen.contains p.2.born).map Prod.fst
theorem H4 {es:List (V×V)} {aP:Array MapEntry} {seen:Array Nat} (h:(leftOf aP seen).size=0):lZ es aP seen=[]:=by
 have h0:leftOf aP seen=#[]:=Array.eq_empty_of_size_eq_zero h
 unfold leftOf at h0
 unfold lZ
 rw [List.map_eq_nil_iff,List.filter_eq_nil_iff]
 intro p hp
 have hm:p.2∈aP:=by simpa using (List.of_mem_zip hp).2
 have:=(Array.filter_eq_empty_iff.1 h0) p.2 hm
 simpa using this
theorem H5 {es:List (V×V)} {aP:Array MapEntry} (h:aP.size=es.length):lZ es aP #[]=es:=by
 unfold lZ
 rw [List.filter_eq_self.2 (fun p _=>by simp),List.map_fst_zip]
 simp [h]
theorem contains_push (seen:Array Nat) (b c:Nat):(seen.push b).contains c=(seen.contains c||decide (c=b)):=by
 rw [Bool.eq_iff_iff]
 simp
theorem zE {b:Nat}:∀ {Z:List ((V×V)×MapEntry)} (seen:Array Nat) {j:Nat} {p:(V×V)×MapEntry},(Z.map fun q=>q.2.born).Nodup->Z[j]? =some p->p.2.born=b->seen.contains b=false->
 ∃ A B,Z.filter (fun q=>!seen.contains q.2.born)=A++p::B/\Z.filter (fun q=>!(seen.push b).contains q.2.born)=A++B
 |[],_,_,_,_,h,_,_=>by simp at h
 |q::Z,seen,0,p,hn,h,hb,hs=>by
  simp only [List.getElem?_cons_zero,Option.some.injEq] at h
  subst h
  rw [List.map_cons,List.nodup_cons] at hn
  refine ⟨[],Z.filter fun q=>!seen.contains q.2.born,?_,?_⟩
  · rw [List.filter_cons_of_pos (by rw [hb,hs];rfl)];rfl
  · rw [List.filter_cons_of_neg (by rw [contains_push,hb,decide_eq_true rfl];simp)]
    refine List.filter_congr fun x hx=>?_
    have:x.2.born≠b:=fun e=>hn.1 (List.mem_map.2 ⟨x,hx,e.trans hb.symm⟩)
    rw [contains_push,decide_eq_false this,Bool.or_false]
 |q::Z,seen,j+1,p,hn,h,hb,hs=>by
  rw [List.map_cons,List.nodup_cons] at hn
  rw [List.getElem?_cons_succ] at h
  obtain ⟨A,B,h1,h2⟩:=zE seen hn.2 h hb hs
  have:q.2.born≠b:=fun e=>hn.1 (List.mem_map.2 ⟨p,List.mem_of_getElem? h,hb.trans e.symm⟩)
  rw [List.filter_cons,List.filter_cons,contains_push,decide_eq_false this,Bool.or_false,h1,h2]
  cases seen.contains q.2.born
  · exact ⟨q::A,B,rfl,rfl⟩
  · exact ⟨A,B,rfl,rfl⟩
theorem F1 {es:List (V×V)} {aP:Array MapEntry} {clock:Nat} {seen:Array Nat} (hb:vE aP clock) (hz:aP.size=es.length) {e:MapEntry} (he:e∈(leftOf aP seen).toList):
 ∃ (L1:List (V×V)) (q:V×V) (L2:List (V×V)) (j:Nat),lZ es aP seen=L1++q::L2/\lZ es aP (seen.push e.born)=L1++L2/\es[j]? =some q/\aP[j]? =some e:=by
 unfold leftOf at he
 have he:e∈aP.filter fun e=>!seen.contains e.born:=Array.mem_def.2 he
 rw [Array.mem_filter] at he
 obtain ⟨h1,h2⟩:=he
 obtain ⟨j,hj,hje⟩:=Array.getElem_of_mem h1
 have QP:j<es.length:=by omega
 have hzj:(es.zip aP.toList)[j]? =some (es[j],e):=by
  rw [List.getElem?_zip_eq_some]
  exact ⟨List.getElem?_eq_getElem QP,by simp [hj,hje]⟩
 have YH:((es.zip aP.toList).map fun q=>q.2.born)=aP.toList.map (·.born):=by
  rw [show (fun q:(V×V)×MapEntry=>q.2.born)=(fun e:MapEntry=>e.born) ∘ Prod.snd from rfl,<-List.map_map,List.map_snd_zip (by simp [hz])]
 obtain ⟨A,B,h3,h4⟩:=zE seen (b:=e.born) (by rw [YH];exact hb.2) hzj rfl (by simpa using h2)
 refine ⟨A.map Prod.fst,es[j],B.map Prod.fst,j,?_,?_,List.getElem?_eq_getElem QP,by simp [hj,hje]⟩
 · unfold lZ;rw [h3];simp
 · unfold lZ;rw [h4];simp
structure uX where
 pre:List cD
 m:aV
 it:Nat
 nx:Nat
 tx:Nat
 en:Nat
 b0:Nat
 b1:Nat
 post:List cD
 body:AC
 deriving Inhabited
def Ek (mk:Key) (o:Obj) (Q:Ex->Fr->St->Prop) (e:Ex) (fr:Fr) (st:St):Prop:=∃ Gl,St.H2 Gl (st.ins mk o)/\Q e fr Gl
def Td (b0 b1:Nat) (R:Fr->St->Prop) (mk:Key) (o:Obj) (Q:Ex->Fr->St->Prop):Ex->Fr->St->Prop
 |.normal,fr,st=>R fr st
 |.exit id,fr,st=>if id=b1 then R fr st else if id=b0 then Ek mk o Q .normal fr st else Ek mk o Q (.exit id) fr st
 |.ret,fr,st=>Ek mk o Q .ret fr st
def Te (A:aX) (n:uX) (mk pN:Key) (o:Obj) (Q:Ex->Fr->St->Prop) (R:List (V×V)->Fr->St->Prop) (left:List (V×V)) (fr:Fr) (st:St):Prop:=
 fr.get n.it=.p pN 0/\(left=[]->fr.cut [n.nx,n.tx] fun fr=>Ek mk o Q .normal fr st)/\
 ∀ L1 x L2,left=L1++x::L2->fr.cut [n.nx,n.tx,n.en] fun fr=>RA A (.seq (.Gb n.post) n.body) (Td n.b0 n.b1 (R (L1++L2)) mk o Q) ((n.en,.bO [x.1,x.2])::fr) st
structure Px (A:aX) (n:uX) (mk pN:Key) (o:Obj) (Q:Ex->Fr->St->Prop) (es:List (V×V)) (fr:Fr) (st:St):Prop where
 h:∀ R:List (V×V)->Fr->St->Prop,(∀ left fr bH st,Fr.le bH fr->Te A n mk pN o Q R left bH st->R left fr st)->R es fr st
def YI (A:aX) (n:uX) (Q:Ex->Fr->St->Prop) (fr:Fr) (st:St):Prop:=
 (jP n.pre fr st).sv A fun x=>match x with
   |(fr,st)=>match n.m.ev fr with
    |.m mk=>p9 (st.get mk) fun o=>match o with
     |.mp kd es=>Px A n mk (.l st.l.next) (.mp kd es) Q es ((n.it,.p (.l st.l.next) 0)::fr) (st.remove mk).zD
     |_=>False
    |_=>False
inductive RC where
 |ac (c:AC)
 |seq (a b:RC)
 |W7 (n:uX)
 deriving Inhabited
def W8 (A:aX):RC->(Ex->Fr->St->Prop)->Fr->St->Prop
 |.ac c,Q,fr,st=>RA A c Q fr st
 |.seq a b,Q,fr,st=>W8 A a (mJ (W8 A b Q) Q) fr st
 |.W7 n,Q,fr,st=>YI A n Q fr st
theorem Px.by {A:aX} {n:uX} {mk pN:Key} {o:Obj} {Q:Ex->Fr->St->Prop} {es:List (V×V)} {fr:Fr} {st:St} (I:List (V×V)->Fr->St->Prop) (h0:I es fr st)
 (hs:∀ left fr st,I left fr st->∃ bH,Fr.le bH fr/\∀ R:List (V×V)->Fr->St->Prop,(∀ l fr st,l.length<left.length->I l fr st->R l fr st)->Te A n mk pN o Q R left bH st):Px A n mk pN o Q es fr st:=by
 refine ⟨fun R hR=>?_⟩
 have key:∀ (k:Nat) left fr st,left.length=k->I left fr st->R left fr st:=by
  intro k
  induction k using Nat.strongRecOn with
  |_ k ih=>
   intro left fr st hk hi
   obtain ⟨bH,hle,hx⟩:=hs left fr st hi
   exact hR left fr bH st hle (hx R fun l fr st hm hi=>ih l.length (by omega) l fr st rfl hi)
 exact key es.length es fr st rfl h0
def zF (P:Program) (N:Nat) (ops:Array Oper):List Oper->List cD->aV->Nat->Bool
 |[o],[],m,it=>decide (o.guard=none)&&decide (o.dst=some it)&&decide (it<N)&&(match o.op with
  |.range t x=>b9 x m&&(match P.underlying t with
   |some (.map _ _)=>true
   |_=>false)
  |_=>false)
 |o::l,A::aeN,m,it=>zZ P o.op A.op&&decide (A.dst=o.dst)&&Dj N o.dst&&gS ops o.guard A.guard&&zF P N ops l aeN m it
 |_,_,_,_=>false
theorem uY {P:Program} {N:Nat} {ops:Array Oper} {m:aV} {it:Nat}:∀ {l:List Oper} {aeN:List cD},zF P N ops l aeN m it=true->
 ∃ l' o t x k e,l=l'++[o]/\p5 P N ops l' aeN=true/\o.guard=none/\o.dst=some it/\it<N/\o.op=.range t x/\b9 x m=true/\P.underlying t=some (.map k e)
 |[],_,h=>by simp [zF] at h
 |[o],[],h=>by
  simp only [zF,Bool.and_eq_true,decide_eq_true_eq] at h
  obtain ⟨⟨⟨h1,h2⟩,h3⟩,h4⟩:=h
  split at h4
  · rename_i t x ho
    simp only [Bool.and_eq_true] at h4
    obtain ⟨h5,h6⟩:=h4
    split at h6
    · rename_i k e hu
      exact ⟨[],o,t,x,k,e,rfl,rfl,h1,h2,h3,ho,h5,hu⟩
    · cases h6
  · cases h4
 |o::o'::l,[],h=>by simp [zF] at h
 |o::l,A::aeN,h=>by
  simp only [zF,Bool.and_eq_true] at h
  obtain ⟨h1,h2⟩:=h
  obtain ⟨l',o',t,x,k,e,rfl,h3,h4⟩:=uY h2
  exact ⟨o::l',o',t,x,k,e,rfl,by simp only [p5,h3,Bool.and_true,Bool.and_eq_true];exact h1,h4⟩
def F2 (N:Nat) (ops:Array Oper) (it nx tx:Nat):Bool:=
 match ops.toList with
 |[o,o']=>decide (o.guard=none)&&decide (o'.guard=none)&&decide (o.dst=some nx)&&decide (o'.dst=some tx)&&decide (nx<N)&&decide (tx<N)&&decide (nx≠it)&&decide (tx≠it)&&(match o.op with
  |.next x false=>b9 x (.t it)
  |_=>false)&&(match o'.op with
  |.extract x 0=>b9 x (.t nx)
  |_=>false)
 |_=>false
def Lf (P:Program) (N:Nat) (ops:Array Oper) (it en:Nat) (post:List cD):Bool:=
 match ops.toList with
 |o::l=>decide (o.guard=none)&&decide (o.dst=some en)&&decide (en<N)&&(match o.op with
  |.entry x=>b9 x (.t it)
  |_=>false)&&p5 P N ops l post
 |_=>false
def Lg (P:Program) (N:Nat) (c:Code) (n:uX):Bool:=
 match c with
 |.seq (.region _ o1 d1) (.block i0 (.loop (.seq (.region _ o2 d2) (.seq (.cond cx sk (.exit i0')) (.block i1 (.seq (.region _ o3 d3) body))))))=>
  !d1&&!d2&&!d3&&decide (i0=n.b0)&&decide (i0'=n.b0)&&decide (i1=n.b1)&&zF P N o1 o1.toList n.pre n.m n.it&&F2 N o2 n.it n.nx n.tx&&b9 cx (.t n.tx)&&pU P N sk .skip&&
   Lf P N o3 n.it n.en n.post&&pU P N body n.body
 |_=>false
def V2 (P:Program) (N:Nat):Code->RC->Bool
 |c,.ac A=>pU P N c A
 |.seq a b,.seq A B=>V2 P N a A&&V2 P N b B
 |c,.W7 n=>Lg P N c n
 |_,_=>false
structure YJ where
 nparams:Nat
 body:RC
 results:List RV
 deriving Inhabited
def GY (P:Program) (f:Nat) (F:YJ):Bool:=
 match P.funcs[f]? with
 |some fn=>match fn.body with
  |some c=>iE P f&&V2 P fn.ntmps c F.body&&kQ P fn.results.toList F.results&&decide (F.nparams<=fn.ntmps)
  |none=>false
 |none=>false
section
variable {P:Program} {N:Nat} {ops:Array Oper}
theorem El {Q:Exit->Act->World->Prop} {i:Nat} {rest:List Nat} {a:Act} {w:World} {o:Oper} (ho:ops[i]? =some o) (hg:o.guard=none) (h:o.wp P a w (wpOps P ops Q rest) Q):wpOps P ops Q (i::rest) a w:=by
 simp only [wpOps,ho]
 rw [if_pos (by simp [Region.wanted,hg])]
 exact .inl h
theorem l3 {o:Oper} {a:Act} {w w':World} {v:Value} {next:Act->World->Prop} {Q:Exit->Act->World->Prop} (h:(execOp a.eval o).run P w=.ok (.value v) w') (hn:next (a.put o.dst v) w'):o.wp P a w next Q:=by
 unfold Oper.wp
 rw [h]
 exact hn
theorem aJ.skip {E:Env} {fr:Fr} {a:Act} (hf:aJ E N fr a) {d:Nat} {x:Value} (hj:fr.get d=.a8):aJ E N fr (a.put (some d) x):=by
 refine ⟨by simp [Act.put,hf.size],fun t=>?_⟩
 by_cases ht:d=t
 · subst ht;rw [hj];exact .a8 _
 · have:(a.put (some d) x).tmps.getD t undef=a.tmps.getD t undef:=by
    simp only [Act.put,Array.getD_eq_getD_getElem?]
    rw [Array.getElem?_setIfInBounds_ne ht]
   rw [this]
   exact hf.rel t
theorem aJ.gR {E:Env} {fr:Fr} {a:Act} (hf:aJ E N fr a) (ks:List Nat):aJ E N (fr.gR ks) a:=by
 refine ⟨hf.size,fun t=>?_⟩
 rw [Fr.cR]
 split
 · exact .a8 _
 · exact hf.rel t
theorem Cm {o:Oper} {a:Act} {w:World} {t k e:TypeId} {x:Operand} {bm:Nat} {es:Array MapEntry} {clock:Nat} (ho:o.op=.range t x) (ht:P.underlying t=some (.map k e)) (hx:a.eval x=.map (some bm)) (hb:w.heap[bm]? =some (.map es clock)):
 (execOp a.eval o).run P w=.ok (.value (.pointer (some ⟨w.heap.size,0,none⟩))) (w.alloc (.mapIter (some bm) clock #[] clock)):=by
 simp [execOp,ho,hx,run_range_map w t k e bm es clock ht hb,Result.andThen]
theorem uZ {o:Oper} {a:Act} {w w':World} {x:Operand} {it v:Value} (ho:o.op=.next x false) (hx:a.eval x=it) (hr:(Instr.next it false o.type).run P w=.ok v w'):(execOp a.eval o).run P w=.ok (.value v) w':=by
 simp [execOp,ho,hx,hr,Result.andThen]
theorem Cn {o:Oper} {a:Act} {w w':World} {x:Operand} {it v:Value} (ho:o.op=.entry x) (hx:a.eval x=it) (hr:(Instr.entry it).run P w=.ok v w'):(execOp a.eval o).run P w=.ok (.value v) w':=by
 simp [execOp,ho,hx,hr,Result.andThen]
theorem u0 {o:Oper} {a:Act} {w:World} {x:Operand} {vs:Array Value} {v:Value} (ho:o.op=.extract x 0) (hx:a.eval x=.tuple vs) (hv:vs[0]? =some v):(execOp a.eval o).run P w=.ok (.value v) w:=by
 simp [execOp,ho,hx,Instr.extract,hv]
theorem GZ {x:Operand} {n:Nat} (h:b9 x (.t n)=true):x=.tmp n:=by
 cases x<;>simp [b9] at h
 exact congrArg _ h
variable {E0:Env} {st0:St} {w0:World}
def Lh (P:Program) (N:Nat) (E0:Env) (st0:St) (w0:World) (c:Code) (Q:Ex->Fr->St->Prop):Exit->Act->World->Prop
 |.normal,a,w=>eS P c (kG N E0 st0 w0 Q) a w
 |e,a,w=>kG N E0 st0 w0 Q e a w
theorem eS.next {c:Code} {Q:Ex->Fr->St->Prop} {a:Act} {w:World} (h:c.wp P (Lh P N E0 st0 w0 c Q) a w):eS P c (kG N E0 st0 w0 Q) a w:=by
 intro b k cs
 obtain ⟨e,a₁,w₁,hq,BI⟩:=h b (.inLoop c::k) cs
 cases e with
 |normal=>
  obtain ⟨e₂,a₂,w₂,X0,Kb⟩:=hq b k cs
  exact ⟨e₂,a₂,w₂,X0,.of_steps (Steps.trans BI (.one step_inLoop)) Kb⟩
 |exit id=>exact ⟨.exit id,a₁,w₁,hq,.pass (x:=.inLoop c) rfl (fun _ _=>.inl (by simp)) BI⟩
 |ret=>exact ⟨.ret,a₁,w₁,hq,.pass (x:=.inLoop c) rfl (fun _ _=>.inl (by simp)) BI⟩
 |goto l=>exact hq.elim
 |panic ch=>exact hq.elim
 |outgrown=>exact hq.elim
theorem round_ok {n:uX} {o2 o3:Array Oper} {cx:Operand} {sk body:Code} {YK YL:Nat} {c:Code} (k2:F2 N o2 n.it n.nx n.tx=true) (k3:b9 cx (.t n.tx)=true) (k4:pU P N sk .skip=true) (k5:Lf P N o3 n.it n.en n.post=true) (k6:pU P N body n.body=true)
 (Q:Ex->Fr->St->Prop) {mk pN:Key} {kd:Option IntKind} {es:List (V×V)} {aP:Array MapEntry} {clock r:Nat} (OJ:w0.heap.size<=r) {o:Obj} (ho:o=.mp kd es)
 {left:List (V×V)} {fr:Fr} {st:St} {E:Env} {w:World} {a:Act} {seen:Array Nat} (G0:left=lZ es aP seen) (ht:H3 mk pN kd es aP clock r E st w seen) (hs:bC E st w) (he:Ext E0 st0 w0 E (st.ins mk o) w) (hf:aJ E N fr a) (hd:a.defers=[])
 (hx:Te (aB P) n mk pN o Q (fun left fr st=>∀ (E:Env) (w:World) (a:Act) (seen:Array Nat),left=lZ es aP seen->H3 mk pN kd es aP clock r E st w seen->bC E st w->Ext E0 st0 w0 E (st.ins mk o) w->aJ E N fr a->a.defers=[]->eS P c (kG N E0 st0 w0 (gA n.b0 Q)) a w) left fr st):
 (Code.seq (.region YK o2 false) (.seq (.cond cx sk (.exit n.b0)) (.block n.b1 (.seq (.region YL o3 false) body)))).wp P (Lh P N E0 st0 w0 c (gA n.b0 Q)) a w:=by
 obtain ⟨hit,C9,V3⟩:=hx
 have Tf:=ht.bm
 have Py:=ht.it
 have V4:(E.μ mk).aW≠r:=fun e=>by rw [e,Py] at Tf;cases Tf
 have leave:∀ (e:Ex) (E':Env) (bH:Fr) (aR:St) (w':World) (a':Act) (RB:Array Nat),H3 mk pN kd es aP clock r E' aR w' RB->bC E' aR w'->Ext E0 st0 w0 E' (aR.ins mk o) w'->aJ E' N bH a'->a'.defers=[]->Ek mk o Q e bH aR->
  BH N E0 st0 w0 (Q e) a' w':=by
  rintro e E' bH aR w' a' RB t1 s1 x1 f1 d1 ⟨Gl,kL,hq⟩
  exact ⟨bH,Gl,E',hq,(by rw [ho] at kL;exact (t1.back s1).same kL),x1.Ld kL,f1,d1⟩
 unfold F2 at k2
 split at k2
 case h_2=>cases k2
 rename_i oN oX YM
 simp only [Bool.and_eq_true,decide_eq_true_eq] at k2
 obtain ⟨⟨⟨⟨⟨⟨⟨⟨⟨g1,g2⟩,d1⟩,d2⟩,n1⟩,n2⟩,ne1⟩,ne2⟩,p1⟩,p2⟩:=k2
 split at p1
 case h_2=>cases p1
 rename_i xN hoN
 split at p2
 case h_2=>cases p2
 rename_i xX hoX
 have e1:=GZ p1
 have e2:=GZ p2
 have e3:=GZ k3
 subst e1 e2 e3
 have gH:o2.size=2:=by rw [<-Array.length_toList,YM];rfl
 have hg0:o2[0]? =some oN:=by rw [<-Array.getElem?_toList,YM];rfl
 have hg1:o2[1]? =some oX:=by rw [<-Array.getElem?_toList,YM];rfl
 have YN:a.eval (.tmp n.it)=.pointer (some ⟨r,0,none⟩):=by
  have h:=hf.rel n.it
  rw [hit] at h
  show a.tmps.getD n.it undef=_
  generalize a.tmps.getD n.it undef=y at h
  cases h with
  |deep hd=>cases hd
  |p _ _ hk=>rw [ht.ei]
 refine wp_seq (wp_region ?_)
 rw [gH]
 show wpOps P o2 _ [0,1] a w
 refine El hg0 g1 ?_
 -- Fi EI two Tg leave in EI frame
 have Oq:∀ (x y:Value) (ks:List Nat),bK n.nx ks=true->bK n.tx ks=true->aJ E N (fr.gR ks) ((a.put (some n.nx) x).put (some n.tx) y):=fun x y ks h1 h2=>
  ((hf.gR ks).skip (by rw [Fr.cR,h1];rfl)).skip (by rw [Fr.cR,h2];rfl)
 have hev:∀ (x y:Value),((a.put (some n.nx) x).put (some n.tx) y).eval (.tmp n.tx)=y:=fun x y=>by
  show (((a.put (some n.nx) x).put (some n.tx) y).tmps.getD n.tx undef)=y
  have:n.tx<(a.put (some n.nx) x).tmps.size:=by simp [Act.put,hf.size,n2]
  simp only [Act.put,Array.getD_eq_getD_getElem?] at this ⊢
  rw [Array.getElem?_setIfInBounds_self_of_lt this]
  rfl
 have V5:∀ (x:Value),(a.put (some n.nx) x).eval (.tmp n.nx)=x:=fun x=>by
  show ((a.put (some n.nx) x).tmps.getD n.nx undef)=x
  have:n.nx<a.tmps.size:=by rw [hf.size];exact n1
  simp only [Act.put,Array.getD_eq_getD_getElem?]
  rw [Array.getElem?_setIfInBounds_self_of_lt this]
  rfl
 rcases run_next_at (P:=P) w oN.type r (E.μ mk).aW clock clock seen aP clock Py Tf ht.bo.1 (Nat.le_refl _) with ⟨h0,cJ⟩|⟨e,Br,w1,hw1,cJ⟩
 · refine l3 (uZ hoN YN cJ) ?_
   rw [d1]
   refine El hg1 g2 (l3 (v:=.bool false) (u0 hoX (V5 _) rfl) ?_)
   rw [d2]
   show Code.wp P _ _ _ _
   refine wp_seq (wp_cond_false (hev _ _) (wp_exit ?_))
   have hn:=C9 (by rw [G0];exact H4 h0)
   rw [Fr.bL] at hn
   have:=leave .normal E _ st w _ seen ht hs he (Oq (.tuple #[.bool false]) (.bool false) [n.nx,n.tx] (bG.2 (by simp)) (bG.2 (by simp))) (by rw [put_defers,put_defers];exact hd) hn
   show BH N E0 st0 w0 (gA n.b0 Q (.exit n.b0)) _ w
   have eb:gA n.b0 Q (.exit n.b0)=Q .normal:=by funext fr st;simp [gA]
   rw [eb]
   exact this
 · obtain ⟨L1,x,L2,j,hl1,C4,hej,RD⟩:=F1 (es:=es) ht.bo ht.sz Br
   obtain ⟨wn,Th⟩:∃ wn,wn=setBlock w1 r (.mapIter (some (E.μ mk).aW) clock (seen.push e.born) clock):=⟨_,rfl⟩
   rw [<-Th] at cJ
   have Js:w1.heap=w.heap/\w1.os=w.os/\w1.output=w.output/\w1.tape=w.tape:=by rcases hw1 with rfl|rfl<;>exact ⟨rfl,rfl,rfl,rfl⟩
   have YO:r<w.heap.size:=(Array.getElem?_eq_some_iff.1 Py).1
   have vH:∀ b,b≠r->wn.heap[b]? =w.heap[b]? :=fun b hb=>by
    rw [Th]
    show (w1.heap.setIfInBounds r _)[b]? =_
    rw [Array.getElem?_setIfInBounds_ne (Ne.symm hb),Js.1]
   have hat:wn.heap[r]? =some (.mapIter (some (E.μ mk).aW) clock (seen.push e.born) clock):=by
    rw [Th]
    show (w1.heap.setIfInBounds r _)[r]? =_
    rw [Array.getElem?_setIfInBounds_self_of_lt (by rw [Js.1];exact YO)]
   have hIr:∀ j,E.I r j=none:=fun j=>by
    cases hx:E.I r j with
    |none=>rfl
    |some y=>
     have:=hs.gJ r j y hx
     simp [aT,Py] at this
   have XA:bC E st wn:=hs.OQ vH (fun k hk=>(ht.apart k hk).2) hIr
   have W9:H3 mk pN kd es aP clock r E st wn (seen.push e.born):=⟨ht.hm,ht.hi,ht.ei,by rw [vH _ V4];exact Tf,hat,ht.bo,ht.sz,ht.rel,ht.apart,ht.own⟩
   have mR:wn.heap.size=w.heap.size:=by
    rw [Th]
    show (w1.heap.setIfInBounds r _).size=_
    rw [Array.size_setIfInBounds,Js.1]
   have jK:Ext E0 st0 w0 E (st.ins mk o) wn:=⟨he.le,by rw [mR];exact he.size,he.eJ,he.eF,he.eQ,fun b hb hk=>by rw [vH b (by omega)];exact he.same b hb hk,
    by rw [Th];exact Js.2.1.trans he.os,by rw [Th];exact Js.2.2.1.trans he.out,by rw [Th];exact Js.2.2.2.trans he.tape⟩
   refine l3 (uZ hoN YN cJ) ?_
   rw [d1]
   refine El hg1 g2 (l3 (v:=.bool true) (u0 hoX (V5 _) rfl) ?_)
   rw [d2]
   show Code.wp P _ _ _ _
   refine wp_seq (wp_cond_true (hev _ _) ?_)
   have V6:∀ {Q':Exit->Act->World->Prop} {a':Act} {w':World},Q' .normal a' w'->sk.wp P Q' a' w':=by
    intro Q' a' w' h
    cases sk<;>simp [pU] at k4
    · exact wp_skip h
    · exact wp_label h
   refine V6 ?_
   show Code.wp P _ _ _ _
   obtain ⟨a2,Ox⟩:∃ a2,a2=(a.put (some n.nx) (.tuple #[.bool true,e.key,e.val])).put (some n.tx) (.bool true):=⟨_,rfl⟩
   rw [<-Ox]
   have YP:aJ E N (fr.gR [n.nx,n.tx,n.en]) a2:=by rw [Ox];exact Oq _ _ _ (bG.2 (by simp)) (bG.2 (by simp))
   have C3:a2.defers=[]:=by rw [Ox,put_defers,put_defers];exact hd
   have YQ:a2.eval (.tmp n.it)=.pointer (some ⟨r,0,none⟩):=by
    rw [Ox]
    have h0:a.tmps.getD n.it undef=_:=YN
    show (((a.put (some n.nx) _).put (some n.tx) _).tmps.getD n.it undef)=_
    simp only [Act.put,Array.getD_eq_getD_getElem?] at h0 ⊢
    rw [Array.getElem?_setIfInBounds_ne ne2,Array.getElem?_setIfInBounds_ne ne1]
    exact h0
   unfold Lf at k5
   split at k5
   case h_2=>cases k5
   rename_i oE lE Ti
   simp only [Bool.and_eq_true,decide_eq_true_eq] at k5
   obtain ⟨⟨⟨⟨g3,d3⟩,n3⟩,p3⟩,V7⟩:=k5
   split at p3
   case h_2=>cases p3
   rename_i xE hoE
   have e3:=GZ p3
   subst e3
   have YR:o3[0]? =some oE:=by rw [<-Array.getElem?_toList,Ti];rfl
   have YS:∀ k o,lE[k]? =some o->o3[1+k]? =some o:=fun k o h=>by rw [<-Array.getElem?_toList,Ti,Nat.add_comm];exact h
   have YT:List.range o3.size=0::List.range' 1 lE.length:=by
    have:o3.size=lE.length+1:=by rw [<-Array.length_toList,Ti];rfl
    rw [this,List.range_eq_range',List.range'_succ]
   have Tj:(Instr.entry (.pointer (some ⟨r,0,none⟩))).run P wn=.ok (.tuple #[e.key,e.val]) wn:=
    run_entry_at wn r (E.μ mk).aW clock seen aP clock e hat (by rw [vH _ V4];exact Tf) (Array.mem_toList_iff.2 (Array.mem_of_getElem? RD)) ht.bo.2
   refine wp_block (wp_seq (wp_region ?_))
   rw [YT]
   refine El YR g3 (l3 (Cn hoE YQ Tj) ?_)
   rw [d3]
   obtain ⟨r1,r2,r3⟩:=ht.rel j x e hej RD
   have hrt:Rel E (.bO [x.1,x.2]) (.tuple #[e.key,e.val]):=by
    refine .bO _ _ rfl fun i v y hv hy=>?_
    match i with
    |0=>simp at hv hy;subst hv;subst hy;exact .deep r1
    |1=>simp at hv hy;subst hv;subst hy;exact r3.mono (E.rL mk)
    |i+2=>simp at hv
   have hf3:aJ E N ((n.en,.bO [x.1,x.2])::fr.gR [n.nx,n.tx,n.en]) (a2.put (some n.en) (.tuple #[e.key,e.val])):=
    aJ.next YP (dst:=some n.en) (fun d h=>by cases h;exact n3) hrt []
   have hb:=V3 L1 x L2 (G0.trans hl1)
   rw [Fr.bL] at hb
   obtain ⟨Qr,Xa⟩:∃ Qr,Qr=Td n.b0 n.b1 (fun fr st=>∀ (E:Env) (w:World) (a:Act) (seen:Array Nat),L1++L2=lZ es aP seen->H3 mk pN kd es aP clock r E st w seen->bC E st w->Ext E0 st0 w0 E (st.ins mk o) w->aJ E N fr a->a.defers=[]->eS P c (kG N E0 st0 w0 (gA n.b0 Q)) a w) mk o Q:=⟨_,rfl⟩
   have hb:(jP n.post ((n.en,.bO [x.1,x.2])::fr.gR [n.nx,n.tx,n.en]) st).sv (aB P) (jN (mJ (RA (aB P) n.body Qr) Qr)):=by rw [Xa];exact hb
   rw [T.GU] at hb
   have hb:=kE (aB.mono P) n.post _ st _ (T.uS (aB.mono P) _ _ hb)
   refine ops_ok n.post lE 1 V7 YS XA hf3 hb ?_
   intro fr4 st4 E4 a4 w4 h4 s4 x4 f4 df4
   show Code.wp P _ _ _ _
   have h4:RA (aB P) n.body Qr fr4 st4:=h4
   refine wp_mono (code_ok (E0:=E) (st0:=st) (w0:=wn) n.body body k6 Qr s4 x4 f4 (df4.trans (by rw [put_defers];exact C3)) (oD (aB.mono P) _ _ _ _ _ h4 fun _ _ _ h=>h)) ?_
   intro e' a5 w5 h5
   -- a round more
   have more:∀ RE Li E5,(∀ (E:Env) (w:World) (a:Act) (seen:Array Nat),L1++L2=lZ es aP seen->H3 mk pN kd es aP clock r E Li w seen->bC E Li w->Ext E0 st0 w0 E (Li.ins mk o) w->aJ E N RE a->a.defers=[]->eS P c (kG N E0 st0 w0 (gA n.b0 Q)) a w)->
    bC E5 Li w5->Ext E st wn E5 Li w5->aJ E5 N RE a5->a5.defers=[]->eS P c (kG N E0 st0 w0 (gA n.b0 Q)) a5 w5:=fun RE Li E5 hR s5 x5 f5 d5=>
    hR E5 w5 a5 (seen.push e.born) C4.symm (W9.step x5) s5 (jK.trans (x5.ins o ht.hm)) f5 d5
   cases e' with
   |normal=>
    obtain ⟨RE,Li,E5,hq,s5,x5,f5,d5⟩:=h5
    rw [Xa] at hq
    exact more RE Li E5 hq s5 x5 f5 d5
   |exit id=>
    obtain ⟨RE,Li,E5,hq,s5,x5,f5,d5⟩:=h5
    rw [Xa] at hq
    simp only [Td] at hq
    simp only [Exit.inBlock]
    split
    · rename_i A0
      rw [if_pos A0] at hq
      exact more RE Li E5 hq s5 x5 f5 d5
    · rename_i A0
      rw [if_neg A0] at hq
      show BH N E0 st0 w0 (gA n.b0 Q (.exit id)) a5 w5
      split at hq
      · rename_i Tk
        have eb:gA n.b0 Q (.exit id)=Q .normal:=by funext fr st;simp [gA,Tk]
        rw [eb]
        exact leave _ _ _ _ _ _ _ (W9.step x5) s5 (jK.trans (x5.ins o ht.hm)) f5 d5 hq
      · rename_i Tk
        have eb:gA n.b0 Q (.exit id)=Q (.exit id):=by funext fr st;simp [gA,Tk]
        rw [eb]
        exact leave _ _ _ _ _ _ _ (W9.step x5) s5 (jK.trans (x5.ins o ht.hm)) f5 d5 hq
   |ret=>
    obtain ⟨RE,Li,E5,hq,s5,x5,f5,d5⟩:=h5
    rw [Xa] at hq
    exact leave .ret _ _ _ _ _ _ (W9.step x5) s5 (jK.trans (x5.ins o ht.hm)) f5 d5 hq
   |goto l=>exact h5.elim
   |panic ch=>exact h5.elim
   |outgrown=>exact h5.elim
theorem rng_ok {c:Code} {n:uX} (hk:Lg P N c n=true) (Q:Ex->Fr->St->Prop) {fr:Fr} {st:St} {E:Env} {w:World} {a:Act} (hs:bC E st w) (he:Ext E0 st0 w0 E st w) (hf:aJ E N fr a) (hd:a.defers=[])
 (hw:YI (aB P) n Q fr st):c.wp P (kG N E0 st0 w0 Q) a w:=by
 unfold Lg at hk
 split at hk
 case h_2=>cases hk
 rename_i id1 o1 d1 i0 YK o2 d2 cx sk i0' i1 YL o3 d3 body
 simp only [Bool.and_eq_true,decide_eq_true_eq,Bool.not_eq_true'] at hk
 obtain ⟨⟨⟨⟨⟨⟨⟨⟨⟨⟨⟨rfl,rfl⟩,rfl⟩,rfl⟩,rfl⟩,rfl⟩,k1⟩,k2⟩,k3⟩,k4⟩,k5⟩,k6⟩:=hk
 obtain ⟨l',oR,tR,xR,kt,et,hl,KB,hgR,hdR,YU,hoR,hxR,hu⟩:=uY k1
 refine wp_seq (wp_region ?_)
 have Tm:List.range o1.size=List.range' 0 l'.length++[l'.length]:=by
  have:o1.size=l'.length+1:=by rw [<-Array.length_toList,hl];simp
  rw [this,List.range_eq_range',List.range'_concat];simp
 rw [Tm]
 have eK:∀ j o,l'[j]? =some o->o1[0+j]? =some o:=fun j o h=>by
  have hj:j<l'.length:=(List.getElem?_eq_some_iff.1 h).1
  rw [Nat.zero_add,<-Array.getElem?_toList,hl,List.getElem?_append_left hj];exact h
 have V8:o1[l'.length]? =some oR:=by rw [<-Array.getElem?_toList,hl];simp
 unfold YI at hw
 rw [T.GU] at hw
 have hw:=kE (aB.mono P) n.pre fr st _ (T.uS (aB.mono P) _ _ hw)
 refine xQ [l'.length] n.pre l' 0 KB eK hs hf hw ?_
 clear hw hs hf
 intro AU IN E1 a1 w1 hw hs Uk hf zW
 have zW:a1.defers=[]:=zW.trans hd
 have Uk:=he.trans Uk
 dsimp only at hw
 split at hw
 case h_2=>exact hw.elim
 rename_i mk hmk
 obtain ⟨o,Fj,hw⟩:=hw.h
 split at hw
 case h_2=>exact hw.elim
 rename_i kd es
 refine El V8 hgR ?_
 have YV:=aH hxR hf
 rw [hmk] at YV
 obtain ⟨YW,YX,Tf⟩:∃ b,(E1.μ mk).aW=b/\a1.eval xR=.map (some b):=by
  generalize hv:a1.eval xR=v at YV
  cases YV with
  |deep hd=>cases hd
  |m _ hk=>exact ⟨_,rfl,rfl⟩
 have hZ:IN.live mk:=⟨_,Fj⟩
 have V9:=hs.g9 mk hZ
 obtain ⟨aP,clock,IJ,Oe,hb3,hb4⟩:=hs.obj mk _ Fj
 rw [YX] at IJ
 refine l3 (Cm hoR hu Tf IJ) ?_
 rw [hdR]
 -- EI world with EI iterator
 obtain ⟨w2,Wa⟩:∃ w2,w2=w1.alloc (.mapIter (some YW) clock #[] clock):=⟨_,rfl⟩
 have R2:w2.heap=w1.heap.push (.mapIter (some YW) clock #[] clock):=by rw [Wa];rfl
 rw [<-Wa]
 obtain ⟨r,hr⟩:∃ r,r=w1.heap.size:=⟨_,rfl⟩
 rw [<-hr]
 have IP:=hs.aside R2
 have he2:=Uk.aside hs R2 (by rw [Wa];rfl) (by rw [Wa];rfl) (by rw [Wa];rfl)
 have Lj:=E1.sW w1.heap.size
 rw [<-hr] at IP he2 Lj
 obtain ⟨pN,Wb⟩:∃ pN,pN=Key.l IN.l.next:=⟨_,rfl⟩
 have I3:pN=E1.aE false:=by rw [Wb,hs.nl];rfl
 have Wc:(E1.aside r).has pN:=by rw [I3];exact Env.cW _ _ _ _
 have Wd:(E1.aside r).μ pN=⟨r,0,0⟩:=by rw [I3];exact Env.dP _ _ _ _
 have hold:∀ b,b<r->w2.heap[b]? =w1.heap[b]? :=fun b hb=>by rw [R2,Array.getElem?_push,if_neg (by omega)]
 have YY:YW<r:=by rw [hr];exact (Array.getElem?_eq_some_iff.1 IJ).1
 have Xb:(E1.aside r).μ mk=E1.μ mk:=Env.lY V9
 have hlb:∀ k,((IN.remove mk).zD).live k->k≠mk/\IN.live k:=by
  intro k hk
  obtain ⟨x,hx⟩:=St.iN.1 hk
  rw [St.eX] at hx
  split at hx
  · cases hx
  · exact ⟨‹_›,x,hx⟩
 have YZ:(IN.remove mk).zD=IN.zD.remove mk:=by cases mk<;>rfl
 have trk:H3 mk pN kd es aP clock r (E1.aside r) (IN.remove mk).zD w2 #[]:=by
  refine ⟨Lj.has V9,Wc,Wd,?_,?_,hb4,Oe,fun j q e h1 h2=>?_,fun k hk=>?_,fun j h1 h2=>?_⟩
  · rw [Xb,YX,hold _ YY];exact IJ
  · rw [Xb,YX,R2,hr];simp
  · obtain ⟨x,y,z⟩:=hb3 j q e h1 h2
    have x:cV E1.I q.1 e.key:=by cases mk<;>exact x
    exact ⟨x.mono Lj.gJ,y,z.mono (Env.gK Lj mk)⟩
  · obtain ⟨h1,h2⟩:=hlb k hk
    rw [Env.lY (hs.g9 k h2),Xb]
    exact ⟨hs.sep k mk h2 hZ h1,by have:=hs.lt h2;omega⟩
  · rw [Xb] at h1 h2 ⊢
    rw [Env.wU]
    exact hs.own mk hZ j h1 h2
 have hsR:bC (E1.aside r) (IN.remove mk).zD w2:=by rw [YZ];exact IP.less mk
 have heR:Ext E0 st0 w0 (E1.aside r) ((IN.remove mk).zD.ins mk (.mp kd es)) w2:=by
  refine he2.Ld ⟨by cases mk<;>rfl,by cases mk<;>rfl,fun k=>?_⟩
  rw [St.sU,St.sV,St.sV,St.eX]
  split
  · rename_i h;subst h;exact Fj.symm
  · rfl
 have YP:aJ (E1.aside r) N ((n.it,.p pN 0)::AU) (a1.put (some n.it) (.pointer (some ⟨r,0,none⟩))):=by
  have hp:Rel (E1.aside r) (.p pN 0) (.pointer (some ⟨r,0,none⟩)):=by
   have:=Rel.p (E:=E1.aside r) pN 0 Wc
   rw [Wd] at this
   simpa using this
  exact aJ.next (hf.mono Lj) (dst:=some n.it) (fun d h=>by cases h;exact YU) hp []
 have OJ:w0.heap.size<=r:=by rw [hr];exact Uk.size
 rw [<-Wb] at hw
 show Code.wp P _ _ _ _
 refine wp_block ?_
 have Ug:∀ e a' w',kG N E0 st0 w0 (gA n.b0 Q) e a' w'->Exit.inBlock n.b0 (kG N E0 st0 w0 Q) e a' w':=by
  intro e a' w' h
  cases e with
  |normal=>exact h
  |exit id=>
   obtain ⟨bH,aR,E',h1,h2⟩:=h
   simp only [gA] at h1
   simp only [Exit.inBlock]
   split
   · rename_i A0;rw [if_pos A0] at h1;exact ⟨bH,aR,E',h1,h2⟩
   · rename_i A0;rw [if_neg A0] at h1;exact ⟨bH,aR,E',h1,h2⟩
  |ret=>exact h
  |goto l=>exact h
  |panic ch=>exact h
  |outgrown=>exact h
 refine wp_mono ?_ Ug
 obtain ⟨o,ho⟩:∃ o,o=Obj.mp kd es:=⟨_,rfl⟩
 rw [<-ho] at hw heR
 have key:=hw.h (fun left fr st=>∀ (E:Env) (w:World) (a:Act) (seen:Array Nat),left=lZ es aP seen->H3 mk pN kd es aP clock r E st w seen->bC E st w->Ext E0 st0 w0 E (st.ins mk o) w->aJ E N fr a->a.defers=[]->
  eS P (Code.seq (.region YK o2 false) (.seq (.cond cx sk (.exit n.b0)) (.block n.b1 (.seq (.region YL o3 false) body)))) (kG N E0 st0 w0 (gA n.b0 Q)) a w)
  fun left fY fr st hle hx E w a seen G0 ht hs he hf hd=>eS.next (round_ok k2 k3 k4 k5 k6 Q OJ ho G0 ht hs he (hf.le hle) hd hx)
 exact (key (E1.aside r) w2 _ #[] (H5 Oe).symm trk hsR heR YP (by rw [put_defers];exact zW)).loop
theorem rc_ok:∀ (A:RC) (c:Code),V2 P N c A=true->∀ (Q:Ex->Fr->St->Prop) {fr:Fr} {st:St} {E:Env} {w:World} {a:Act},
 bC E st w->Ext E0 st0 w0 E st w->aJ E N fr a->a.defers=[]->W8 (aB P) A Q fr st->c.wp P (kG N E0 st0 w0 Q) a w
 |.ac A,c,hk,Q,fr,st,E,w,a,hs,he,hf,hd,hw=>code_ok A c (by cases c<;>exact hk) Q hs he hf hd (oD (aB.mono P) _ _ _ _ _ hw fun _ _ _ h=>h)
 |.W7 n,c,hk,Q,fr,st,E,w,a,hs,he,hf,hd,hw=>rng_ok (by cases c<;>exact hk) Q hs he hf hd hw
 |.seq A B,c,hk,Q,fr,st,E,w,a,hs,he,hf,hd,hw=>by
  cases c<;>simp [V2] at hk
  rename_i x y
  refine wp_seq ?_
  refine wp_mono (rc_ok A x hk.1 _ hs he hf hd hw) ?_
  intro e a' w' h
  cases e with
  |normal=>
   obtain ⟨bH,aR,E',h1,h2,h3,h4,h5⟩:=h
   exact rc_ok B y hk.2 Q h2 h3 h4 h5 h1
  |exit id=>exact h
  |ret=>exact h
  |goto l=>exact h
  |panic ch=>exact h
  |outgrown=>exact h
theorem We {f:Nat} {F:YJ} (hk:GY P f F=true) {args:List V} (hn:args.length=F.nparams) {h:aA} {K:V->aA->Prop}
 (hw:(cI 0 args).fS fun fr=>W8 (aB P) F.body (mK F.results K) fr (eR h)):aB P f args h K:=by
 rw [Fr.oC] at hw
 unfold GY at hk
 split at hk
 case h_2=>cases hk
 rename_i fn JM
 split at hk
 case h_2=>cases hk
 rename_i c hb
 simp only [Bool.and_eq_true,decide_eq_true_eq] at hk
 obtain ⟨⟨⟨k1,k2⟩,k3⟩,k4⟩:=hk
 exact Rc JM hb k1 k3 k4 hn fun E w a hs DA hd=>rc_ok (E0:=E) (st0:=eR h) (w0:=w) F.body c k2 _ hs (.refl _ _ _) DA hd hw
end
end Go.Eng
namespace Go.Eng.AF
open Go Go.Eng
def Lk:YJ:=⟨2,.seq (.ac (rR [oO 3 (.box false 1) [1], oA 4 kF [4]])) (.seq (.ac (rS [oF 7 2 3, oL 8 7, oO 9 (.un .not 8) [8]] (.cond 9 (.seq (.vD [dq 0 (oP 10 0),
 dq 1 (oO 11 (.rG 10) []),
 dq 2 (oF 12 1 11),
 dq 3 (oK 13 12),
 dq 4 (oF 14 0 3),
 dq 5 (oK 15 14),
 dq 6 (oO 16 (.IZ none (.agg [vS,(vI 0),.bU]) 13 15 false) []),
 dq 7 (oO 17 (.Hf 1 none 16) []),
 dq 8 (oF 18 1 3),
 dq 9 (oK 19 18),
 dq 10 (oO 20 (.bin .eql 17 19) []),
 dq 11 (oA 4 20 [])] [0,10,11,12,13,3,14,15,16,17,18,19,20])
.ret)
 .skip))) (.seq (.W7 ⟨[oQ 21 0, oO 22 (.rG 21) [21], oE 23 2 22, oL 24 23],24,25,26,27,28,0,1,[oO 29 (.ext 28 0) [], oO 30 (.ext 28 1) [28], oB 5 29, oB 6 30],(rS [oQ 31 6, oF 32 1 3, oL 33 32, oO 34 (.bin .gtr 31 33) [31,33], oQ 35 34, oG 36 (.mv 5) 35 [5], oG 37 (.jS 0 3) 35 [], oG 38 (.load none 37) 35 [37], oG 39 (.call 379 [36,38]) 35 [36,38], oO 40 (.pick 35 39 kF) [35,39]] (.cond 40 (rS [oA 4 kF []] .ret)
 .skip))⟩) (.ac (rS [oA 4 kT []] .ret)))),[.t 4]⟩
end Go.Eng.AF
namespace Go.Proofs.YtdjbjnnfmkoceaaGreat
open Go Go.Eng Go.Eng.AF
theorem Ll:GY Tryz.prog 317 Lk=true:=by kernel_rfl
end Go.Proofs.YtdjbjnnfmkoceaaGreat
