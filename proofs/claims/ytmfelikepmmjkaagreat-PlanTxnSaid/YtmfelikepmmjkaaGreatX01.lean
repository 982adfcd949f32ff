/-
How abstract values, objects and heaps stand to the model's: 'Rel', 'Sim', 'Ext', and the steps that keep them.
-/
import Derived.Test.YtmfelikepmmjkaaGreatX00
import Derived.Calls
import Derived.Deep.MidRow
import Derived.ArgAppend
import Derived.MapKept
import Derived.Laws.Entries
import Derived.Laws.MakeOwn
set_option linter.unusedVariables false
set_option linter.unusedSimpArgs false
namespace Go.Eng
open Go
abbrev AH:=Nat->Nat->Option Value
structure Loc where
 bS:Nat
 base:Nat
 fin:Nat
structure Env where
 I:AH
 μ:Key->Loc
 ng:Nat
 nl:Nat
def Env.has (E:Env):Key->Prop
 |.g n=>n<E.ng
 |.l n=>n<E.nl
structure Env.Le (E F:Env):Prop where
 j6:∀ b o x,E.I b o=some x->F.I b o=some x
 ng:E.ng<=F.ng
 nl:E.nl<=F.nl
 loc:∀ k,E.has k->F.μ k=E.μ k
theorem Env.Le.refl (E:Env):E.Le E:=⟨fun _ _ _ h=>h,Nat.le_refl _,Nat.le_refl _,fun _ _=>rfl⟩
theorem Env.Le.has {E F:Env} (h:E.Le F) {k:Key} (hk:E.has k):F.has k:=by
 cases k with
 |g n=>exact Nat.lt_of_lt_of_le hk h.ng
 |l n=>exact Nat.lt_of_lt_of_le hk h.nl
theorem Env.Le.trans {E F G:Env} (h:E.Le F) (h':F.Le G):E.Le G:=
 ⟨fun b o x hx=>h'.j6 b o x (h.j6 b o x hx),Nat.le_trans h.ng h'.ng,Nat.le_trans h.nl h'.nl,
  fun k hk=>(h'.loc k (h.has hk)).trans (h.loc k hk)⟩
def str (l:List UInt8):ByteArray:=⟨l.toArray⟩
inductive fF (I:AH):V->Value->Prop where
 |b (x:Bool):fF I (.b x) (.bool x)
 |i (k:IntKind) (n:Int):fF I (.i k n) (.int k n)
 |s (l:List UInt8):fF I (.s l) (.string (str l))
 |aS:fF I .aS (.slice none 0 0)
 |nW (sz:Nat):fF I (.sl none sz []) (.slice none 0 0)
 |LO (sz:Nat) (a:Addr) (hs:a.spot≠none):fF I (.sl none sz []) (.slice (some a) 0 0)
 |sl (sz:Nat) (es:List (List V)) (bS off cap:Nat) (val:Nat->Value) (hc:es.length<=cap) (hl:∀ e∈es,e.length=sz)
   (hv:∀ j d,es.flatten[j]? =some d->I bS (off+j)=some (val j)) (hr:∀ j d,es.flatten[j]? =some d->fF I d (val j)):
   fF I (.sl none sz es) (.slice (some ⟨bS,off,none⟩) es.length cap)
def Env.cut (E:Env):Env:={ E with nl:=0 }
def Env.at (E:Env):Key->Env
 |.g _=>E.cut
 |.l _=>E
theorem Env.QO (E:Env):E.cut.Le E:=⟨fun _ _ _ h=>h,Nat.le_refl _,Nat.zero_le _,fun _ _=>rfl⟩
theorem Env.DZ {E F:Env} (h:E.Le F):E.cut.Le F.cut:=
 ⟨h.j6,h.ng,Nat.le_refl _,fun k hk=>h.loc k (E.QO.has hk)⟩
theorem Env.jC {E F:Env} (h:E.Le F) (k:Key):(E.at k).Le (F.at k):=by
 cases k with
 |g n=>exact Env.DZ h
 |l n=>exact h
theorem Env.D2 (E:Env) (k:Key):(E.at k).Le E:=by
 cases k with
 |g n=>exact E.QO
 |l n=>exact .refl E
inductive Rel (E:Env):V->Value->Prop where
 |deep {v:V} {x:Value} (h:fF E.I v x):Rel E v x
 |lJ:Rel E .lJ (.pointer none)
 |p (k:Key) (off:Nat) (hk:E.has k):Rel E (.p k off) (.pointer (some ⟨(E.μ k).bS,(E.μ k).base+off,none⟩))
 |pa (k:Key) (sz ix off:Nat) (hk:E.has k):Rel E (.pa k sz ix off) (.pointer (some ⟨(E.μ k).bS,(E.μ k).base+ix*sz+off,none⟩))
 |pc (cs:List V) (off bS o:Nat) (val:Nat->Value) (hv:∀ j d,cs[j]? =some d->E.I bS (o+j)=some (val j))
   (hr:∀ j d,cs[j]? =some d->fF E.I d (val j)):Rel E (.pc cs off) (.pointer (some ⟨bS,o+off,none⟩))
 |F4 (k:Key) (sz:Nat) (es:List (List V)) (a:Addr) (cap:Nat) (hk:E.has k) (hd:fF E.I (.sl none sz es) (.slice (some a) es.length cap))
   (hb:a.block=(E.μ k).bS/\a.spot=none) (hs:cap=es.length\/(a.off+es.length*sz=(E.μ k).base/\a.off+cap*sz=(E.μ k).fin)):
   Rel E (.sl (some k) sz es) (.slice (some a) es.length cap)
 |ms (k:Key) (sz st len:Nat) (a:Addr) (cap:Nat) (hk:E.has k) (hc:len<=cap) (hf:(E.μ k).base+(st+cap)*sz=(E.μ k).fin)
   (hb:a.block=(E.μ k).bS) (ha:cap=0\/a=⟨(E.μ k).bS,(E.μ k).base+st*sz,none⟩):Rel E (.ms k sz st len) (.slice (some a) len cap)
 |gS:Rel E .gS (.map none)
 |m (k:Key) (hk:E.has k):Rel E (.m k) (.map (some (E.μ k).bS))
 |fn (f:Nat) (a c:List V) (a' c':Array Value) (ha:a'.size=a.length) (hc:c'.size=c.length)
   (Jq:∀ (j:Nat) (v:V) (x:Value),a[j]? =some v->a'[j]? =some x->Rel E v x)
   (QP:∀ (j:Nat) (v:V) (x:Value),c[j]? =some v->c'[j]? =some x->Rel E v x):Rel E (.fn f a c) (.func (.func f) a' c')
 |lK:Rel E .lK .nilFunc
 |agg (cs:List V) (a:Array Value) (ha:a.size=cs.length) (h1:∀ (j:Nat) (x:Value),a[j]? =some x->x.oneCell'=true) (hr:∀ (j:Nat) (v:V) (x:Value),cs[j]? =some v->a[j]? =some x->Rel E v x):Rel E (.agg cs) (.agg a)
 |bY (cs:List V) (a:Array Value) (ha:a.size=cs.length) (hr:∀ (j:Nat) (v:V) (x:Value),cs[j]? =some v->a[j]? =some x->Rel E v x):Rel E (.bY cs) (.tuple a)
 |gD (x:Value):Rel E .gD x
theorem fF.mono {I J:AH} (h:∀ b o x,I b o=some x->J b o=some x) {v:V} {x:Value} (hr:fF I v x):fF J v x:=by
 induction hr with
 |b x=>exact .b x
 |i k n=>exact .i k n
 |s l=>exact .s l
 |aS=>exact .aS
 |nW sz=>exact .nW sz
 |LO sz a hs=>exact .LO sz a hs
 |sl sz es bS off cap val hc hl hv _ ih=>exact .sl sz es bS off cap val hc hl (fun j d hj=>h _ _ _ (hv j d hj)) ih
theorem fF.Dr {I:AH} (sz:Nat) (p:Option Addr):fF I (.sl none sz []) (.slice p 0 0):=by
 cases p with
 |none=>exact .nW sz
 |some a=>
  obtain ⟨bS,off,s⟩:=a
  cases s with
  |none=>exact .sl sz [] bS off 0 (fun _=>default) (Nat.le_refl _) (fun e he=>by cases he) (fun j d hj=>by simp at hj) (fun j d hj=>by simp at hj)
  |some x=>exact .LO sz _ (by simp)
theorem Rel.mono {E F:Env} (h:E.Le F) {v:V} {x:Value} (hr:Rel E v x):Rel F v x:=by
 induction hr with
 |deep hd=>exact .deep (hd.mono h.j6)
 |lJ=>exact .lJ
 |p k off hk=>rw [<-h.loc k hk];exact .p k off (h.has hk)
 |pa k sz ix off hk=>rw [<-h.loc k hk];exact .pa k sz ix off (h.has hk)
 |pc cs off bS o val hv hr=>exact .pc cs off bS o val (fun j d hj=>h.j6 _ _ _ (hv j d hj)) (fun j d hj=>(hr j d hj).mono h.j6)
 |F4 k sz es a cap hk hd hb hs=>exact .F4 k sz es a cap (h.has hk) (hd.mono h.j6) (by rw [h.loc k hk];exact hb) (by rw [h.loc k hk];exact hs)
 |ms k sz st len a cap hk hc hf hb ha=>exact .ms k sz st len a cap (h.has hk) hc (by rw [h.loc k hk];exact hf) (by rw [h.loc k hk];exact hb) (by rw [h.loc k hk];exact ha)
 |gS=>exact .gS
 |m k hk=>rw [<-h.loc k hk];exact .m k (h.has hk)
 |fn f a c a' c' ha hc _ _ iha ihc=>exact .fn f a c a' c' ha hc iha ihc
 |lK=>exact .lK
 |agg cs a ha h1 _ ih=>exact .agg cs a ha h1 ih
 |bY cs a ha _ ih=>exact .bY cs a ha ih
 |gD x=>exact .gD x
def eT (E:Env) (l:List V) (a:Array Value):Prop:=a.size=l.length/\∀ (j:Nat) (v:V) (x:Value),l[j]? =some v->a[j]? =some x->Rel E v x
theorem eT.get {E:Env} {l:List V} {a:Array Value} (h:eT E l a) {j:Nat} {v:V} (hj:l[j]? =some v):∃ x,a[j]? =some x/\Rel E v x:=by
 have cO:j<l.length:=(List.getElem?_eq_some_iff.1 hj).1
 have:j<a.size:=by rw [h.1];exact cO
 exact ⟨a[j],by simp [this],h.2 j v _ hj (by simp [this])⟩
def tU (z:Nat) (fz:Nat×Nat) (n:Nat):Prop:=fz.1=fz.2\/(n<=fz.1/\z=1)
theorem tU.one {z:Nat} {fz:Nat×Nat} {n:Nat} (h:tU z fz n):tU 1 fz n:=h.elim .inl fun h=>.inr ⟨h.1,rfl⟩
def iH (z:Nat) (E:Env) (w:World) (L:Loc) (cs:List V):Prop:=
 ∃ cells t fz,w.heap[L.bS]? =some (.cells cells t fz)/\tU z fz cells.size/\L.base+cs.length<=L.fin/\L.fin<=cells.size/\
  ∀ j v,cs[j]? =some v->∃ x,cells[L.base+j]? =some x/\Rel E v x/\x.oneCell'=true
def C7 (bU:Array MapEntry) (clock:Nat):Prop:=(∀ x∈bU.toList,x.born<clock)/\(bU.toList.map (·.born)).Nodup
def Holds (E:Env) (w:World) (L:Loc):Obj->Prop
 |.cs c=>L.base=0/\iH 1 E w L c
 |.arr sz es=>(∀ e∈es,e.length=sz)/\iH sz E w L es.flatten
 |.spare=>iH 1 E w L []
 |.mp kd es=>∃ bU clock,w.heap[L.bS]? =some (.map bU clock)/\bU.size=es.length/\
   (∀ (j:Nat) (q:V×V) (e:MapEntry),es[j]? =some q->bU[j]? =some e->fF E.I q.1 e.key/\q.1.fR kd=true/\Rel E q.2 e.val)/\C7 bU clock
def St.live (st:St) (k:Key):Prop:=∃ o,st.get k=some o
def bM (w:World) (b o:Nat):Option Value:=
 match w.heap[b]? with
 |some (.cells c _ _)=>c[o]?
 |_=>none
theorem lY (w:World) (b o:Nat):w.cell? ⟨b,o,none⟩=bM w b o:=by
 simp only [World.cell?,bM]
 split<;>simp_all
structure cH (E:Env) (st:St) (w:World):Prop where
 ng:st.g.next=E.ng
 nl:st.l.next=E.nl
 j7:∀ k,st.live k->E.has k
 j6:∀ b o x,E.I b o=some x->bM w b o=some x
 obj:∀ k o,st.get k=some o->Holds (E.at k) w (E.μ k) o
 sep:∀ k k',st.live k->st.live k'->k≠k'->(E.μ k).bS≠(E.μ k').bS
 own:∀ k,st.live k->∀ j,(E.μ k).base<=j->j<(E.μ k).fin->E.I (E.μ k).bS j=none
structure Ext (E:Env) (st:St) (w:World) (E':Env) (cB:St) (w':World):Prop where
 le:E.Le E'
 size:w.heap.size<=w'.heap.size
 fT:∀ b o x,E'.I b o=some x->E.I b o=some x\/w.heap.size<=b\/∃ k,st.live k/\(E.μ k).bS=b
 gT:∀ k,cB.live k->E.has k->st.live k
 iB:∀ k,cB.live k->¬E.has k->w.heap.size<=(E'.μ k).bS\/∃ k0,st.live k0/\(E.μ k0).bS=(E'.μ k).bS
 same:∀ b,b<w.heap.size->(∀ k,st.live k->(E.μ k).bS≠b)->w'.heap[b]? =w.heap[b]?
 os:w'.os=w.os
 out:w'.output=w.output
 tape:w'.tape=w.tape
theorem Ext.refl (E:Env) (st:St) (w:World):Ext E st w E st w:=
 ⟨.refl E,Nat.le_refl _,fun _ _ _ h=>.inl h,fun _ h _=>h,fun k h _=>.inr ⟨k,h,rfl⟩,fun _ _ _=>rfl,rfl,rfl,rfl⟩
theorem Ext.trans {E:Env} {st:St} {w:World} {E':Env} {cB:St} {w':World} {E'':Env} {Z8:St} {V8:World}
 (h:Ext E st w E' cB w') (g:Ext E' cB w' E'' Z8 V8):Ext E st w E'' Z8 V8 where
 le:=h.le.trans g.le
 size:=Nat.le_trans h.size g.size
 fT b o x hx:=by
  rcases g.fT b o x hx with h1|h1|⟨k,hk,hb⟩
  · exact h.fT b o x h1
  · exact .inr (.inl (Nat.le_trans h.size h1))
  · by_cases he:E.has k
    · exact .inr (.inr ⟨k,h.gT k hk he,by rw [<-hb,h.le.loc k he]⟩)
    · rcases h.iB k hk he with h2|⟨k0,h2,h3⟩
      · exact .inr (.inl (hb▸h2))
      · exact .inr (.inr ⟨k0,h2,h3.trans hb⟩)
 gT k hk he:=h.gT k (g.gT k hk (h.le.has he)) he
 iB k hk he:=by
  by_cases D3:E'.has k
  · have iT:=g.gT k hk D3
    rw [g.le.loc k D3]
    exact h.iB k iT he
  · rcases g.iB k hk D3 with h1|⟨k0,h1,h2⟩
    · exact .inl (Nat.le_trans h.size h1)
    · rw [<-h2]
      by_cases Nw:E.has k0
      · exact .inr ⟨k0,h.gT k0 h1 Nw,by rw [h.le.loc k0 Nw]⟩
      · exact h.iB k0 h1 Nw
 same b hb hn:=by
  rw [<-h.same b hb hn]
  refine g.same b (Nat.lt_of_lt_of_le hb h.size) fun k hk=>?_
  by_cases he:E.has k
  · rw [h.le.loc k he];exact hn k (h.gT k hk he)
  · rcases h.iB k hk he with h2|⟨k0,h2,h3⟩
    · omega
    · rw [<-h3];exact hn k0 h2
 os:=g.os.trans h.os
 out:=g.out.trans h.out
 tape:=g.tape.trans h.tape
theorem Holds.of_heap {E:Env} {w w':World} (h:w'.heap=w.heap) {L:Loc} {o:Obj} (ho:Holds E w L o):Holds E w' L o:=by
 cases o<;>simp only [Holds,iH,h] at*<;>exact ho
theorem cH.of_heap {E:Env} {st:St} {w w':World} (h:w'.heap=w.heap) (hs:cH E st w):cH E st w':=
 ⟨hs.ng,hs.nl,hs.j7,fun b o x hx=>by simpa [bM,h] using hs.j6 b o x hx,fun k o hk=>(hs.obj k o hk).of_heap h,hs.sep,hs.own⟩
theorem Ext.drawn {E:Env} {st:St} {w:World} (n:Nat):Ext E st w E st { w with drawn:=n }:=
 ⟨.refl E,Nat.le_refl _,fun _ _ _ h=>.inl h,fun _ h _=>h,fun k h _=>.inr ⟨k,h,rfl⟩,fun _ _ _=>rfl,rfl,rfl,rfl⟩
theorem aA.QQ (l:List (Nat×Obj)) (n m:Nat) (x:Obj):aA.find (aA.CA l n x) m=if m=n then (aA.find l n).map fun _=>x else aA.find l m:=by
 induction l with
 |nil=>simp [aA.CA,aA.find]
 |cons q r ih=>
  obtain ⟨k,o⟩:=q
  by_cases hk:k=n
  · subst hk
    simp only [aA.CA,if_true,aA.find]
    by_cases hm:m=k
    · subst hm;simp
    · have:¬k=m:=fun e=>hm e.symm
      simp [hm,this]
  · simp only [aA.CA,if_neg hk,aA.find,ih]
    by_cases hm:m=n
    · subst hm;simp [hk]
    · simp [hm]
theorem aA.QR (l:List (Nat×Obj)) (n m:Nat):aA.find (aA.del l n) m=if m=n then none else aA.find l m:=by
 induction l with
 |nil=>simp [aA.del,aA.find]
 |cons q r ih=>
  obtain ⟨k,o⟩:=q
  by_cases hk:k=n
  · subst hk
    simp only [aA.del,if_true,aA.find,ih]
    by_cases hm:m=k
    · simp [hm]
    · have:¬k=m:=fun e=>hm e.symm
      simp [hm,this]
  · simp only [aA.del,if_neg hk,aA.find,ih]
    by_cases hm:m=n
    · subst hm;simp [hk]
    · simp [hm]
theorem aA.xT (h:aA) (n m:Nat) (x:Obj):(h.set n x).get m=if m=n then (h.get n).map fun _=>x else h.get m:=aA.QQ _ _ _ _
theorem aA.jN (h:aA) (n m:Nat):(h.remove n).get m=if m=n then none else h.get m:=aA.QR _ _ _
theorem aA.kY (h:aA) (m:Nat) (x:Obj):(h.push x).get m=if m=h.next then some x else h.get m:=by
 simp only [aA.push,aA.get,aA.find]
 by_cases hm:m=h.next
 · simp [hm]
 · have:¬h.next=m:=fun e=>hm e.symm
   simp [hm,this]
theorem St.xT (st:St) (k k':Key) (x:Obj):(st.set k x).get k'=if k'=k then (st.get k).map fun _=>x else st.get k':=by
 cases k<;>cases k'<;>simp [St.set,St.get,aA.xT]
theorem St.jN (st:St) (k k':Key):(st.remove k).get k'=if k'=k then none else st.get k':=by
 cases k<;>cases k'<;>simp [St.remove,St.get,aA.jN]
theorem St.kY (st:St) (g:Bool) (k':Key) (x:Obj):(st.push g x).get k'=if k'=st.aO g then some x else st.get k':=by
 cases g<;>cases k'<;>simp [St.push,St.aO,St.get,aA.kY]
theorem St.kZ (st:St) (k:Key) (g:Bool):(st.remove k).aO g=st.aO g:=by
 cases k<;>cases g<;>rfl
def Env.push (E:Env) (g:Bool) (L:Loc) (J:AH):Env where
 I b o:=match E.I b o with
  |some x=>some x
  |none=>J b o
 μ k:=match g with
  |true=>if k=.g E.ng then L else E.μ k
  |false=>if k=.l E.nl then L else E.μ k
 ng:=match g with
  |true=>E.ng+1
  |false=>E.ng
 nl:=match g with
  |true=>E.nl
  |false=>E.nl+1
def Env.aO (E:Env):Bool->Key
 |true=>.g E.ng
 |false=>.l E.nl
theorem Env.lZ (E:Env) (g:Bool):¬E.has (E.aO g):=by cases g<;>simp [Env.aO,Env.has]
theorem Env.rJ (E:Env) (g:Bool) (L:Loc) (J:AH):E.Le (E.push g L J):=by
 refine ⟨fun b o x hx=>by simp [Env.push,hx],?_,?_,?_⟩
 · cases g<;>simp [Env.push]
 · cases g<;>simp [Env.push]
 · intro k hk
   cases g<;>simp only [Env.push]<;>rw [if_neg]<;>rintro rfl<;>simp [Env.has] at hk
theorem Env.gE (E:Env) (g:Bool) (L:Loc) (J:AH):(E.push g L J).μ (E.aO g)=L:=by cases g<;>simp [Env.push,Env.aO]
theorem Env.QS (E:Env) (g:Bool) (L:Loc) (J:AH) (k:Key):(E.push g L J).has k↔E.has k\/k=E.aO g:=by
 cases g<;>cases k<;>simp [Env.push,Env.aO,Env.has]<;>omega
theorem Env.fG (E:Env) (g:Bool) (L:Loc) (J:AH):(E.push g L J).has (E.aO g):=(E.QS g L J _).2 (.inr rfl)
theorem cH.aO {E:Env} {st:St} {w:World} (h:cH E st w) (g:Bool):st.aO g=E.aO g:=by
 cases g<;>simp [St.aO,Env.aO,h.ng,h.nl]
theorem iH.dZ {z:Nat} {E F:Env} (hle:E.Le F) {w w':World} {L:Loc} {cs:List V} (hb:w'.heap[L.bS]? =w.heap[L.bS]?) (h:iH z E w L cs):iH z F w' L cs:=by
 obtain ⟨cells,t,fz,h1,h2,h3,h4,h5⟩:=h
 exact ⟨cells,t,fz,by rw [hb,h1],h2,h3,h4,fun j v hj=>let ⟨x,hx,hr,h1⟩:=h5 j v hj;⟨x,hx,hr.mono hle,h1⟩⟩
theorem Holds.dZ {E F:Env} (hle:E.Le F) {w w':World} {L:Loc} {o:Obj} (hb:w'.heap[L.bS]? =w.heap[L.bS]?) (h:Holds E w L o):Holds F w' L o:=by
 cases o with
 |cs c=>exact ⟨h.1,iH.dZ hle hb h.2⟩
 |arr sz es=>exact ⟨h.1,iH.dZ hle hb h.2⟩
 |spare=>exact iH.dZ hle hb h
 |mp kd es=>
  obtain ⟨bU,clock,h1,h2,h3,h4⟩:=h
  exact ⟨bU,clock,by rw [hb,h1],h2,fun j q e hq he=>let ⟨a,b,c⟩:=h3 j q e hq he;⟨a.mono hle.j6,b,c.mono hle⟩,h4⟩
theorem Holds.size {E:Env} {w:World} {L:Loc} {o:Obj} (h:Holds E w L o):L.bS<w.heap.size:=by
 have:∃ x,w.heap[L.bS]? =some x:=by
  cases o with
  |cs c=>obtain ⟨_,cells,t,fz,h1,_⟩:=h;exact ⟨_,h1⟩
  |arr sz es=>obtain ⟨_,cells,t,fz,h1,_⟩:=h;exact ⟨_,h1⟩
  |spare=>obtain ⟨cells,t,fz,h1,_⟩:=h;exact ⟨_,h1⟩
  |mp kd es=>obtain ⟨bU,clock,h1,_⟩:=h;exact ⟨_,h1⟩
 obtain ⟨x,hx⟩:=this
 exact (Array.getElem?_eq_some_iff.1 hx).1
theorem cH.lt {E:Env} {st:St} {w:World} (h:cH E st w) {k:Key} (hk:st.live k):(E.μ k).bS<w.heap.size:=
 let ⟨o,ho⟩:=hk;(h.obj k o ho).size
theorem cH.fresh {E:Env} {st:St} {w w':World} (h:cH E st w) (gone:Option Key) (g:Bool) (base fin:Nat) (J:Nat->Option Value) (o:Obj) (ob:Go.Obj)
 (hh:w'.heap=w.heap.push ob) (Z9:w'.os=w.os) (LP:w'.output=w.output) (JB:w'.tape=w.tape)
 (hJ:∀ j x,J j=some x->(∃ c t fz,ob=.cells c t fz/\c[j]? =some x)/\¬(base<=j/\j<fin))
 (ho:Holds ((E.push g ⟨w.heap.size,base,fin⟩ fun b j=>if b=w.heap.size then J j else none).at (E.aO g)) w' ⟨w.heap.size,base,fin⟩ o):
 let cB:=(match gone with|some k=>st.remove k|none=>st).push g o
 let E':=E.push g ⟨w.heap.size,base,fin⟩ fun b j=>if b=w.heap.size then J j else none
 cH E' cB w'/\Ext E st w E' cB w':=by
 intro cB E'
 have hle:E.Le E':=Env.rJ _ _ _ _
 have QT:st.aO g=E.aO g:=h.aO g
 have fU:∀ k,cB.get k=if k=E.aO g then some o else (match gone with|some k0=>if k=k0 then none else st.get k|none=>st.get k):=by
  intro k
  simp only [cB]
  cases gone with
  |none=>rw [St.kY,QT]
  |some k0=>rw [St.kY,St.kZ,QT,St.jN]
 have kQ:∀ k,cB.live k->k≠E.aO g->st.live k:=by
  rintro k ⟨x,hx⟩ dJ
  rw [fU,if_neg dJ] at hx
  cases gone with
  |none=>exact ⟨x,hx⟩
  |some k0=>
   simp only at hx
   split at hx
   · cases hx
   · exact ⟨x,hx⟩
 have hold:∀ b,b<w.heap.size->w'.heap[b]? =w.heap[b]? :=by
  intro b hb
  rw [hh,Array.getElem?_push,if_neg (by omega)]
 have yR:w'.heap[w.heap.size]? =some ob:=by rw [hh];simp
 have lI:w'.heap.size=w.heap.size+1:=by rw [hh];simp
 have OP:∀ b j x,E.I b j=some x->b<w.heap.size:=by
  intro b j x hx
  have:=h.j6 b j x hx
  simp only [bM] at this
  rcases Nat.lt_or_ge b w.heap.size with hl|hl
  · exact hl
  · simp [Array.getElem?_eq_none hl] at this
 have CB:cB.g.next=E'.ng/\cB.l.next=E'.nl:=by
  have h1:=h.ng
  have h2:=h.nl
  simp only [cB,E']
  cases gone with
  |none=>cases g<;>simp [St.push,aA.push,Env.push,h1,h2]
  |some k=>cases k<;>cases g<;>simp [St.push,aA.push,St.remove,aA.remove,Env.push,h1,h2]
 have agE:∀ k,cB.live k->E'.has k:=by
  intro k hk
  by_cases dJ:k=E.aO g
  · subst dJ;exact Env.fG _ _ _ _
  · exact hle.has (h.j7 k (kQ k hk dJ))
 have Lu:E'.μ (E.aO g)=⟨w.heap.size,base,fin⟩:=Env.gE _ _ _ _
 refine ⟨⟨CB.1,CB.2,agE,?_,?_,?_,?_⟩,⟨hle,by omega,?_,?_,?_,fun b hb _=>hold b hb,Z9,LP,JB⟩⟩
 · intro b j x hx
   simp only [E',Env.push] at hx
   cases hI:E.I b j with
   |some y=>
    rw [hI] at hx
    have hb:=OP b j y hI
    have:=h.j6 b j y hI
    simp only [bM,hold b hb] at*
    simp only [Option.some.injEq] at hx
    rw [this,hx]
   |none=>
    rw [hI] at hx
    simp only at hx
    split at hx
    · rename_i hb
      subst hb
      obtain ⟨⟨c,t,fz,rfl,hc⟩,_⟩:=hJ j x hx
      simp only [bM,yR,hc]
    · cases hx
 · intro k x hk
   by_cases dJ:k=E.aO g
   · subst dJ
     rw [fU,if_pos rfl] at hk
     simp only [Option.some.injEq] at hk
     subst hk
     rw [Lu];exact ho
   · have hl:=kQ k ⟨x,hk⟩ dJ
     rw [fU,if_neg dJ] at hk
     have iT:st.get k=some x:=by
      cases gone with
      |none=>exact hk
      |some k0=>
       simp only at hk
       split at hk
       · cases hk
       · exact hk
     rw [hle.loc k (h.j7 k hl)]
     exact (h.obj k x iT).dZ (Env.jC hle k) (hold _ (h.lt hl))
 · intro k k' hk iT dJ
   by_cases h1:k=E.aO g
   · subst h1
     have h2:k'≠E.aO g:=fun e=>dJ e.symm
     have hl:=kQ k' iT h2
     rw [Lu,hle.loc k' (h.j7 k' hl)]
     have:=h.lt hl
     simp only [ne_eq];omega
   · have hl:=kQ k hk h1
     by_cases h2:k'=E.aO g
     · subst h2
       rw [Lu,hle.loc k (h.j7 k hl)]
       have:=h.lt hl
       simp only [ne_eq];omega
     · have y9:=kQ k' iT h2
       rw [hle.loc k (h.j7 k hl),hle.loc k' (h.j7 k' y9)]
       exact h.sep k k' hl y9 dJ
 · intro k hk j hj1 V9
   by_cases h1:k=E.aO g
   · subst h1
     rw [Lu] at*
     simp only at hj1 V9 ⊢
     simp only [E',Env.push]
     cases hI:E.I w.heap.size j with
     |some y=>exact absurd (OP _ _ _ hI) (by omega)
     |none=>
      simp only [if_true]
      cases hJ':J j with
      |none=>rfl
      |some y=>exact absurd ⟨hj1,V9⟩ (hJ j y hJ').2
   · have hl:=kQ k hk h1
     rw [hle.loc k (h.j7 k hl)] at*
     have cO:=h.lt hl
     simp only [E',Env.push,h.own k hl j hj1 V9]
     rw [if_neg (by omega)]
 · intro b j x hx
   simp only [E',Env.push] at hx
   cases hI:E.I b j with
   |some y=>rw [hI] at hx;exact .inl hx
   |none=>
    rw [hI] at hx
    simp only at hx
    split at hx
    · rename_i hb;exact .inr (.inl (by omega))
    · cases hx
 · intro k hk he
   exact kQ k hk (fun e=>E.lZ g (e▸he))
 · intro k hk he
   by_cases h1:k=E.aO g
   · subst h1;rw [Lu];exact .inl (Nat.le_refl _)
   · exact absurd (h.j7 k (kQ k hk h1)) he
theorem cH.set {E:Env} {st:St} {w w':World} (h:cH E st w) {k:Key} {o0:Obj} (hk:st.get k=some o0) (o:Obj)
 (lI:w'.heap.size=w.heap.size) (zR:∀ b,b≠(E.μ k).bS->w'.heap[b]? =w.heap[b]?) (Z9:w'.os=w.os) (LP:w'.output=w.output) (JB:w'.tape=w.tape)
 (D4:∀ j x,E.I (E.μ k).bS j=some x->bM w' (E.μ k).bS j=some x) (ho:Holds (E.at k) w' (E.μ k) o):
 cH E (st.set k o) w'/\Ext E st w E (st.set k o) w':=by
 have fU:∀ k',(st.set k o).get k'=if k'=k then some o else st.get k':=by
  intro k';rw [St.xT,hk];rfl
 have kQ:∀ k',(st.set k o).live k'↔st.live k':=by
  intro k'
  simp only [St.live,fU]
  by_cases e:k'=k
  · subst e;simp [hk]
  · simp [e]
 have CB:(st.set k o).g.next=st.g.next/\(st.set k o).l.next=st.l.next:=by cases k<;>simp [St.set,aA.set]
 have GC:st.live k:=⟨o0,hk⟩
 refine ⟨⟨CB.1.trans h.ng,CB.2.trans h.nl,fun k' iT=>h.j7 k' ((kQ k').1 iT),?_,?_,?_,?_⟩,
  ⟨.refl E,by omega,fun _ _ _ hx=>.inl hx,fun k' iT _=>(kQ k').1 iT,fun k' iT _=>.inr ⟨k',(kQ k').1 iT,rfl⟩,?_,Z9,LP,JB⟩⟩
 · intro b j x hx
   by_cases e:b=(E.μ k).bS
   · subst e;exact D4 j x hx
   · have:=h.j6 b j x hx
     simp only [bM,zR b e] at*
     exact this
 · intro k' x hx
   rw [fU] at hx
   by_cases e:k'=k
   · subst e;rw [if_pos rfl] at hx;simp only [Option.some.injEq] at hx;subst hx;exact ho
   · rw [if_neg e] at hx
     exact (h.obj k' x hx).dZ (.refl _) (zR _ (h.sep k' k ⟨x,hx⟩ GC e))
 · intro a b ha hb dJ
   exact h.sep a b ((kQ a).1 ha) ((kQ b).1 hb) dJ
 · intro a ha j h1 h2
   exact h.own a ((kQ a).1 ha) j h1 h2
 · intro b _ hn
   exact zR b (fun e=>hn k GC e.symm)
theorem cH.move {E:Env} {st:St} {w w':World} (h:cH E st w) {k:Key} {o0:Obj} (hk:st.get k=some o0) (g:Bool) (L:Loc) (J:Nat->Option Value) (o:Obj)
 (hL:L.bS=(E.μ k).bS) (Jr:(E.μ k).base<=L.base) (F5:L.fin<=(E.μ k).fin)
 (lI:w'.heap.size=w.heap.size) (zR:∀ b,b≠(E.μ k).bS->w'.heap[b]? =w.heap[b]?) (Z9:w'.os=w.os) (LP:w'.output=w.output) (JB:w'.tape=w.tape)
 (D4:∀ j x,E.I (E.μ k).bS j=some x->bM w' (E.μ k).bS j=some x)
 (hJ:∀ j x,J j=some x->bM w' (E.μ k).bS j=some x/\¬(L.base<=j/\j<L.fin))
 (ho:Holds ((E.push g L fun b j=>if b=(E.μ k).bS then J j else none).at (E.aO g)) w' L o):
 let cB:=(st.remove k).push g o
 let E':=E.push g L fun b j=>if b=(E.μ k).bS then J j else none
 cH E' cB w'/\Ext E st w E' cB w':=by
 intro cB E'
 have hle:E.Le E':=Env.rJ _ _ _ _
 have QT:st.aO g=E.aO g:=h.aO g
 have GC:st.live k:=⟨o0,hk⟩
 have fU:∀ k',cB.get k'=if k'=E.aO g then some o else if k'=k then none else st.get k':=by
  intro k'
  simp only [cB]
  rw [St.kY,St.kZ,QT,St.jN]
 have kQ:∀ k',cB.live k'->k'≠E.aO g->st.live k'/\k'≠k:=by
  rintro k' ⟨x,hx⟩ dJ
  rw [fU,if_neg dJ] at hx
  split at hx
  · cases hx
  · rename_i agG;exact ⟨⟨x,hx⟩,agG⟩
 have CB:cB.g.next=E'.ng/\cB.l.next=E'.nl:=by
  have h1:=h.ng
  have h2:=h.nl
  simp only [cB,E']
  cases k<;>cases g<;>simp [St.push,aA.push,St.remove,aA.remove,Env.push,h1,h2]
 have Lu:E'.μ (E.aO g)=L:=Env.gE _ _ _ _
 refine ⟨⟨CB.1,CB.2,?_,?_,?_,?_,?_⟩,⟨hle,by omega,?_,?_,?_,?_,Z9,LP,JB⟩⟩
 · intro k' iT
   by_cases dJ:k'=E.aO g
   · subst dJ;exact Env.fG _ _ _ _
   · exact hle.has (h.j7 k' (kQ k' iT dJ).1)
 · intro b j x hx
   simp only [E',Env.push] at hx
   cases hI:E.I b j with
   |some y=>
    rw [hI] at hx
    simp only [Option.some.injEq] at hx
    subst hx
    by_cases e:b=(E.μ k).bS
    · subst e;exact D4 j y hI
    · have:=h.j6 b j y hI
      simp only [bM,zR b e] at*
      exact this
   |none=>
    rw [hI] at hx
    simp only at hx
    split at hx
    · rename_i hb;subst hb;exact (hJ j x hx).1
    · cases hx
 · intro k' x hx
   rw [fU] at hx
   by_cases e:k'=E.aO g
   · subst e;rw [if_pos rfl] at hx;simp only [Option.some.injEq] at hx;subst hx;rw [Lu];exact ho
   · rw [if_neg e] at hx
     split at hx
     · cases hx
     · rename_i dJ
       rw [hle.loc k' (h.j7 k' ⟨x,hx⟩)]
       exact (h.obj k' x hx).dZ (Env.jC hle k') (zR _ (h.sep k' k ⟨x,hx⟩ GC dJ))
 · intro a b ha hb dJ
   by_cases e1:a=E.aO g
   · subst e1
     have e2:b≠E.aO g:=fun e=>dJ e.symm
     have hl:=kQ b hb e2
     rw [Lu,hle.loc b (h.j7 b hl.1),hL]
     exact h.sep k b GC hl.1 (fun e=>hl.2 e.symm)
   · have hl:=kQ a ha e1
     by_cases e2:b=E.aO g
     · subst e2
       rw [Lu,hle.loc a (h.j7 a hl.1),hL]
       exact h.sep a k hl.1 GC hl.2
     · have y9:=kQ b hb e2
       rw [hle.loc a (h.j7 a hl.1),hle.loc b (h.j7 b y9.1)]
       exact h.sep a b hl.1 y9.1 dJ
 · intro a ha j h1 h2
   by_cases e1:a=E.aO g
   · subst e1
     rw [Lu] at*
     simp only [E',Env.push,hL]
     rw [h.own k GC j (by omega) (by omega)]
     simp only [if_true]
     cases hJ':J j with
     |none=>rfl
     |some y=>exact absurd ⟨h1,h2⟩ (hJ j y hJ').2
   · have hl:=kQ a ha e1
     rw [hle.loc a (h.j7 a hl.1)] at*
     simp only [E',Env.push,h.own a hl.1 j h1 h2]
     rw [if_neg (h.sep a k hl.1 GC hl.2)]
 · intro b j x hx
   simp only [E',Env.push] at hx
   cases hI:E.I b j with
   |some y=>rw [hI] at hx;exact .inl hx
   |none=>
    rw [hI] at hx
    simp only at hx
    split at hx
    · rename_i hb;exact .inr (.inr ⟨k,GC,hb.symm⟩)
    · cases hx
 · intro k' iT he
   exact (kQ k' iT (fun e=>E.lZ g (e▸he))).1
 · intro k' iT he
   by_cases e:k'=E.aO g
   · subst e;rw [Lu,hL];exact .inr ⟨k,GC,rfl⟩
   · exact absurd (h.j7 k' (kQ k' iT e).1) he
 · intro b _ hn
   exact zR b (fun e=>hn k GC e.symm)
open Go
def wIf (c:Bool) (X Y:Prop):Prop:=(c=true->X)/\(c=false->Y)
def wEx {β:Type} (o:Option β) (k:β->Prop):Prop:=∃ x,o=some x/\k x
def Xm {β:Type} (o:Option β) (n:Prop) (k:β->Prop):Prop:=(o=none->n)/\(∀ x,o=some x->k x)
def agH (c:Bool) (k:Prop):Prop:=c=true/\k
def Wa (kd:IntKind) (n:Int) (k:Int->Prop):Prop:=k (kd.wrap n)\/(kd.min<=n/\n<=kd.max/\k n)
theorem QU {c:Bool} {X Y:Prop} (h:c=true) (x:X):wIf c X Y:=⟨fun _=>x,fun h'=>(by rw [h] at h';cases h')⟩
theorem QV {c:Bool} {X Y:Prop} (h:c=false) (y:Y):wIf c X Y:=⟨fun h'=>(by rw [h] at h';cases h'),fun _=>y⟩
theorem QW {β:Type} {o:Option β} {n:Prop} {k:β->Prop} (h:o=none) (hn:n):Xm o n k:=⟨fun _=>hn,fun x hx=>by rw [h] at hx;cases hx⟩
theorem QX {β:Type} {o:Option β} {n:Prop} {k:β->Prop} {x:β} (h:o=some x) (hk:k x):Xm o n k:=
 ⟨fun hn=>(by rw [h] at hn;cases hn),fun y hy=>by rw [h] at hy;cases hy;exact hk⟩
theorem pY {kd:IntKind} {n:Int} (h:kd.min<=n) (h':n<=kd.max):kd.wrap n=n:=by
 cases kd<;>simp [IntKind.wrap,IntKind.min,IntKind.max,IntKind.bits,IntKind.signed] at*<;>(try split)<;>omega
theorem pQ {kd:IntKind} {n:Int} {k:Int->Prop}:Wa kd n k↔k (kd.wrap n):=by
 constructor
 · rintro (h|⟨h1,h2,h3⟩)
   · exact h
   · rwa [pY h1 h2]
 · exact .inl
abbrev b7:=Nat->List V->aA->(V->aA->Prop)->Prop
def T.wp {α:Type} (A:b7):T α->(α->Prop)->Prop
 |.ret a,K=>K a
 |.ite c t e,K=>wIf c (t.wp A K) (e.wp A K)
 |.elem o k,K=>wEx o fun x=>(k x).wp A K
 |.byte o k,K=>wEx o fun x=>(k x).wp A K
 |.tQ o k,K=>wEx o fun x=>(k x).wp A K
 |.F2 o k,K=>wEx o fun x=>(k x).wp A K
 |.obj o k,K=>wEx o fun x=>(k x).wp A K
 |.mU o n k,K=>Xm o (n.wp A K) fun x=>(k x).wp A K
 |.jL c k,K=>agH c (k.wp A K)
 |.wrap kd n k,K=>Wa kd n fun x=>(k x).wp A K
 |.any k,K=>∀ r,(k r).wp A K
 |.same v u k,K=>v=u/\k.wp A K
 |.call f asV h k,K=>A f asV h fun r h'=>(k r h').wp A K
 |.fail,_=>False
def b7.tV (A:b7):Prop:=∀ f asV h (K K':V->aA->Prop),(∀ r h',K r h'->K' r h')->A f asV h K->A f asV h K'
theorem T.wp_mono {α:Type} {A:b7} (hA:A.tV) {t:T α}:∀ {K K':α->Prop},(∀ a,K a->K' a)->t.wp A K->t.wp A K':=by
 induction t with
 |ret a=>exact fun h hk=>h _ hk
 |ite c t e OQ OR=>exact fun h hk=>⟨fun hc=>OQ h (hk.1 hc),fun hc=>OR h (hk.2 hc)⟩
 |elem o k ih=>exact fun h ⟨x,hx,hk⟩=>⟨x,hx,ih x h hk⟩
 |byte o k ih=>exact fun h ⟨x,hx,hk⟩=>⟨x,hx,ih x h hk⟩
 |tQ o k ih=>exact fun h ⟨x,hx,hk⟩=>⟨x,hx,ih x h hk⟩
 |F2 o k ih=>exact fun h ⟨x,hx,hk⟩=>⟨x,hx,ih x h hk⟩
 |obj o k ih=>exact fun h ⟨x,hx,hk⟩=>⟨x,hx,ih x h hk⟩
 |mU o n k HW ih=>exact fun h hk=>⟨fun hn=>HW h (hk.1 hn),fun x hx=>ih x h (hk.2 x hx)⟩
 |jL c k ih=>exact fun h hk=>⟨hk.1,ih h hk.2⟩
 |wrap kd n k ih=>exact fun h hk=>hk.imp (ih _ h) fun ⟨a,b,c⟩=>⟨a,b,ih _ h c⟩
 |any k ih=>exact fun h hk r=>ih r h (hk r)
 |same v u k ih=>exact fun h hk=>⟨hk.1,ih h hk.2⟩
 |call f asV hh k ih=>exact fun h hk=>hA _ _ _ _ _ (fun r h' hr=>ih r h' h hr) hk
 |fail=>exact fun _ hk=>hk
theorem T.wp_bind {α β:Type} {A:b7} (t:T α) (f:α->T β) (K:β->Prop):(t.bind f).wp A K=t.wp A fun a=>(f a).wp A K:=by
 induction t with
 |ret a=>rfl
 |ite c t e OQ OR=>simp only [T.bind,T.wp,OQ,OR]
 |elem o k ih=>simp only [T.bind,T.wp,ih]
 |byte o k ih=>simp only [T.bind,T.wp,ih]
 |tQ o k ih=>simp only [T.bind,T.wp,ih]
 |F2 o k ih=>simp only [T.bind,T.wp,ih]
 |obj o k ih=>simp only [T.bind,T.wp,ih]
 |mU o n k HW ih=>simp only [T.bind,T.wp,HW,ih]
 |jL c k ih=>simp only [T.bind,T.wp,ih]
 |wrap kd n k ih=>simp only [T.bind,T.wp,ih]
 |any k ih=>simp only [T.bind,T.wp,ih]
 |same v u k ih=>simp only [T.bind,T.wp,ih]
 |call g asV h k ih=>simp only [T.bind,T.wp,ih]
 |fail=>rfl
def GD:aA:=⟨0,[]⟩
abbrev dP (h:aA):St:=⟨h,GD⟩
def sE (P:Program) (f:Nat):Bool:=
 match P.funcs[f]? with
 | some fn => fn.body.isSome && !(fn.name == "runtime.NumGoroutine")
 |none=>false
def aC (P:Program):b7:=fun f args h K=>sE P f=true/\
 ∀ (E:Env) (w:World) (vs:Array Value),E.nl=0->cH E (dP h) w->eT E args vs->
  Calls P f vs w fun e w'=>∃ v x h' E',K v h'/\e=.returned x/\E'.nl=0/\cH E' (dP h') w'/\Ext E (dP h) w E' (dP h') w'/\Rel E' v x
theorem aC.mono (P:Program):(aC P).tV:=fun _ _ _ _ _ hK hA=>⟨hA.1,fun E w vs hn hs hv=>
 (hA.2 E w vs hn hs hv).mono fun _ _ ⟨v,x,h',E',h1,h2,h3,h4,h5,h6⟩=>⟨v,x,h',E',hK _ _ h1,h2,h3,h4,h5,h6⟩⟩
theorem UL (n:Nat):GD.get n=none:=rfl
theorem nX {h:aA} {k:Key} (hk:(dP h).live k):∃ n,k=.g n/\∃ o,h.get n=some o:=by
 obtain ⟨o,ho⟩:=hk
 cases k with
 |g n=>exact ⟨n,rfl,o,ho⟩
 |l n=>simp [St.get,UL] at ho
theorem Nx {E:Env} {v v':V} {x:Value} (h:v.out=some v') (hr:Rel E v x):Rel E.cut v' x:=by
 unfold V.out at h
 split at h<;>simp only [Option.some.injEq,reduceCtorEq] at h<;>subst h
 all_goals (cases hr)
 all_goals (first
  |exact .deep ‹_›
  |exact .lJ
  |exact .gS
  |exact .lK
  |exact .p (E:=E.cut) (.g _) _ ‹_›
  |exact .pa (E:=E.cut) (.g _) _ _ _ ‹_›
  |exact .m (E:=E.cut) (.g _) ‹_›
  |exact .F4 (E:=E.cut) (.g _) _ _ _ _ ‹_› ‹_› ‹_› ‹_›
  |exact .ms (E:=E.cut) (.g _) _ _ _ _ _ ‹_› ‹_› ‹_› ‹_› ‹_›
  |(exact .deep (by assumption))
  |skip)
 all_goals (rename_i hd;cases hd)
theorem D5 {E:Env}:∀ {l l':List V} {a:Array Value},V.outs l=some l'->eT E l a->eT E.cut l' a:=by
 intro l
 induction l with
 |nil=>
  intro l' a h hr
  simp only [V.outs,Option.some.injEq] at h
  subst h
  exact ⟨hr.1,fun j v x hj=>by simp at hj⟩
 |cons v r ih=>
  intro l' a h hr
  simp only [V.outs] at h
  split at h
  · rename_i v' r' hv QY
    simp only [Option.some.injEq] at h
    subst h
    have lI:a.size=r.length+1:=hr.1
    have BJ:eT E r (a.extract 1 a.size):=⟨by simp [lI],fun j u x hj hx=>hr.2 (j+1) u x (by simpa using hj) (by
     rw [Array.getElem?_extract] at hx
     split at hx
     · rw [Nat.add_comm];exact hx
     · cases hx)⟩
    have ht:=ih QY BJ
    have hl:r'.length=r.length:=by have h1:=ht.1;have h2:=BJ.1;omega
    refine ⟨by simp [lI,hl],fun j u x hj hx=>?_⟩
    cases j with
    |zero=>
     simp only [List.getElem?_cons_zero,Option.some.injEq] at hj
     subst hj
     exact Nx hv (hr.2 0 v x (by simp) hx)
    |succ j=>
     refine ht.2 j u x (by simpa using hj) ?_
     have cO:j+1<a.size:=(Array.getElem?_eq_some_iff.1 hx).1
     rw [Array.getElem?_extract,if_pos (by omega),Nat.add_comm]
     exact hx
  · cases h
theorem eT.append {E:Env} {l r:List V} {a b:Array Value} (h:eT E l a) (g:eT E r b):eT E (l++r) (a++b):=by
 refine ⟨by simp [h.1,g.1],fun j v x hj hx=>?_⟩
 rw [Array.getElem?_append] at hx
 rw [List.getElem?_append] at hj
 rw [h.1] at hx
 split at hj
 · rename_i cO
   rw [if_pos cO] at hx
   exact h.2 j v x hj hx
 · rename_i cO
   rw [if_neg cO] at hx
   exact g.2 _ v x hj hx
theorem AI {E:Env} {v v':V} {x:Value} (h:v.pass=some v') (hr:Rel E v x):Rel E.cut v' x:=by
 unfold V.pass at h
 split at h
 · split at h
   · rename_i cs _ y hy
     simp only [Option.some.injEq] at h
     subst h
     cases hr with
     |deep hd=>cases hd
     |agg _ a ha h1 Jq=>
      have:=D5 hy ⟨ha,Jq⟩
      exact .agg _ _ this.1 h1 this.2
   · cases h
 · split at h
   · rename_i f a c _ _ y z hy hz
     simp only [Option.some.injEq] at h
     subst h
     cases hr with
     |deep hd=>cases hd
     |fn _ _ _ a' c' ha hc Jq QP=>
      have h1:=D5 hy ⟨ha,Jq⟩
      have h2:=D5 hz ⟨hc,QP⟩
      exact .fn _ _ _ _ _ h1.1 h2.1 h1.2 h2.2
   · cases h
 · exact Nx h hr
theorem D6 {E:Env}:∀ {l l':List V} {a:Array Value},hZ l=some l'->eT E l a->eT E.cut l' a:=by
 intro l
 induction l with
 |nil=>
  intro l' a h hr
  simp only [hZ,Option.some.injEq] at h
  subst h
  exact ⟨hr.1,fun j v x hj=>by simp at hj⟩
 |cons v r ih=>
  intro l' a h hr
  simp only [hZ] at h
  split at h
  · rename_i v' r' hv QY
    simp only [Option.some.injEq] at h
    subst h
    have lI:a.size=r.length+1:=hr.1
    have BJ:eT E r (a.extract 1 a.size):=⟨by simp [lI],fun j u x hj hx=>hr.2 (j+1) u x (by simpa using hj) (by
     rw [Array.getElem?_extract] at hx
     split at hx
     · rw [Nat.add_comm];exact hx
     · cases hx)⟩
    have ht:=ih QY BJ
    have hl:r'.length=r.length:=by have h1:=ht.1;have h2:=BJ.1;omega
    refine ⟨by simp [lI,hl],fun j u x hj hx=>?_⟩
    cases j with
    |zero=>
     simp only [List.getElem?_cons_zero,Option.some.injEq] at hj
     subst hj
     exact AI hv (hr.2 0 v x (by simp) hx)
    |succ j=>
     refine ht.2 j u x (by simpa using hj) ?_
     have cO:j+1<a.size:=(Array.getElem?_eq_some_iff.1 hx).1
     rw [Array.getElem?_extract,if_pos (by omega),Nat.add_comm]
     exact hx
  · cases h
theorem cH.cut {E:Env} {st:St} {w:World} (h:cH E st w):cH E.cut (dP st.g) w:=by
 have hl:∀ k,(dP st.g).live k->st.live k:=by
  intro k hk
  obtain ⟨n,rfl,o,ho⟩:=nX hk
  exact ⟨o,ho⟩
 refine ⟨h.ng,rfl,?_,h.j6,?_,fun k k' hk iT dJ=>h.sep k k' (hl k hk) (hl k' iT) dJ,fun k hk=>h.own k (hl k hk)⟩
 · intro k hk
   obtain ⟨n,rfl,o,ho⟩:=nX hk
   exact h.j7 (.g n) ⟨o,ho⟩
 · intro k o hk
   obtain ⟨n,rfl,o',Wb⟩:=nX ⟨o,hk⟩
   exact h.obj (.g n) o hk
def Env.join (E E':Env):Env where
 I:=E'.I
 μ k:=match k with
  |.g _=>E'.μ k
  |.l _=>E.μ k
 ng:=E'.ng
 nl:=E.nl
theorem cH.back {E E':Env} {st:St} {h':aA} {w w':World} (h:cH E st w) (hn:E'.nl=0) (hs:cH E' (dP h') w')
 (he:Ext E.cut (dP st.g) w E' (dP h') w'):cH (E.join E') ⟨h',st.l⟩ w'/\Ext E st w (E.join E') ⟨h',st.l⟩ w'/\E'.Le (E.join E'):=by
 have hle:E.Le (E.join E'):=by
  refine ⟨fun b o x hx=>he.le.j6 b o x hx,he.le.ng,Nat.le_refl _,?_⟩
  intro k hk
  cases k with
  |g n=>exact he.le.loc (.g n) hk
  |l n=>rfl
 have QZ:E'.Le (E.join E'):=by
  refine ⟨fun b o x hx=>hx,Nat.le_refl _,by rw [hn];exact Nat.zero_le _,?_⟩
  intro k hk
  cases k with
  |g n=>rfl
  |l n=>simp [Env.has,hn] at hk
 have hlg:∀ n,st.live (.g n)->(dP st.g).live (.g n):=fun n ⟨o,ho⟩=>⟨o,ho⟩
 have UM:∀ k,(dP st.g).live k->st.live k:=by
  intro k hk
  obtain ⟨n,rfl,o,ho⟩:=nX hk
  exact ⟨o,ho⟩
 -- an object of LQ aaD own anG apart from all UN LQ callee may write
 have HX:∀ n,st.live (.l n)->∀ k,(dP st.g).live k->(E.cut.μ k).bS≠(E.μ (.l n)).bS:=by
  intro n hl k hk
  obtain ⟨m,rfl,o,ho⟩:=nX hk
  exact h.sep (.g m) (.l n) ⟨o,ho⟩ hl (by simp)
 have eQ:∀ k,St.live ⟨h',st.l⟩ k->(∃ n,k=.g n/\(dP h').live (.g n))\/∃ n,k=.l n/\st.live (.l n):=by
  rintro (n|n) ⟨o,ho⟩
  · exact .inl ⟨n,rfl,o,ho⟩
  · exact .inr ⟨n,rfl,o,ho⟩
 have lA:∀ n,st.live (.l n)->w'.heap[(E.μ (.l n)).bS]? =w.heap[(E.μ (.l n)).bS]? :=fun n hl=>
  he.same _ (h.lt hl) (HX n hl)
 have Js:∀ n m,(dP h').live (.g n)->st.live (.l m)->(E'.μ (.g n)).bS≠(E.μ (.l m)).bS:=by
  intro n m hg hl
  by_cases ha:E.cut.has (.g n)
  · rw [he.le.loc _ ha]
    exact HX m hl _ (he.gT _ hg ha)
  · rcases he.iB _ hg ha with h1|⟨k0,h1,h2⟩
    · have:=h.lt hl
      omega
    · rw [<-h2]
      exact HX m hl _ h1
 refine ⟨⟨hs.ng,h.nl,?_,hs.j6,?_,?_,?_⟩,⟨hle,he.size,?_,?_,?_,?_,he.os,he.out,he.tape⟩,QZ⟩
 · intro k hk
   rcases eQ k hk with ⟨n,rfl,hg⟩|⟨n,rfl,hl⟩
   · exact QZ.has (hs.j7 _ hg)
   · exact hle.has (h.j7 _ hl)
 · intro k o hk
   cases k with
   |g n=>
    have:=hs.obj (.g n) o hk
    exact this.dZ (Env.DZ QZ) rfl
   |l n=>
    have:=h.obj (.l n) o hk
    exact this.dZ hle (lA n ⟨o,hk⟩)
 · intro a b ha hb dJ
   rcases eQ a ha with ⟨n,rfl,hg⟩|⟨n,rfl,hl⟩<;>rcases eQ b hb with ⟨m,rfl,hg'⟩|⟨m,rfl,y9⟩
   · exact hs.sep _ _ hg hg' dJ
   · exact Js n m hg y9
   · exact fun e=>Js m n hg' hl e.symm
   · exact h.sep _ _ hl y9 dJ
 · intro k hk j h1 h2
   rcases eQ k hk with ⟨n,rfl,hg⟩|⟨n,rfl,hl⟩
   · exact hs.own _ hg j h1 h2
   · show E'.I _ j=none
     cases hx:E'.I (E.μ (.l n)).bS j with
     |none=>exact hx
     |some x=>
      rcases he.fT _ _ _ hx with h3|h3|⟨k0,h3,h4⟩
      · have:=h.own _ hl j h1 h2
        rw [show E.cut.I=E.I from rfl,this] at h3
        cases h3
      · have:=h.lt hl
        omega
      · exact absurd h4 (HX n hl _ h3)
 · intro b o x hx
   rcases he.fT b o x hx with h1|h1|⟨k,h1,h2⟩
   · exact .inl h1
   · exact .inr (.inl h1)
   · exact .inr (.inr ⟨k,UM k h1,h2⟩)
 · intro k hk ha
   rcases eQ k hk with ⟨n,rfl,hg⟩|⟨n,rfl,hl⟩
   · exact UM _ (he.gT _ hg ha)
   · exact hl
 · intro k hk ha
   rcases eQ k hk with ⟨n,rfl,hg⟩|⟨n,rfl,hl⟩
   · rcases he.iB _ hg ha with h1|⟨k0,h1,h2⟩
     · exact .inl h1
     · exact .inr ⟨k0,UM k0 h1,h2⟩
   · exact absurd (h.j7 _ hl) ha
 · intro b hb hn
   exact he.same b hb fun k hk=>by
    have:=hn k (UM k hk)
    obtain ⟨n,rfl,o,ho⟩:=nX hk
    exact this
theorem aC.use {P:Program} {f:Nat} {vs:List V} {E:Env} {st:St} {w:World} (hs:cH E st w) {args:List V} {a:Array Value} (hp:hZ args=some vs)
 (ha:eT E args a) {K:V->aA->Prop} (h:aC P f vs st.g K) {next:Value->World->Prop}
 (hK:∀ v h' E' w' x,K v h'->cH E' ⟨h',st.l⟩ w'->Ext E st w E' ⟨h',st.l⟩ w'->Rel E' v x->next x w') {Q:Exit->Act->World->Prop} {act:Act}:
 Calls P f a w fun
  |.returned v,w'=>next v w'
  |.panicked chain,w'=>Q (.panic chain) act w'
  |.outgrown,_=>LetsOut Q:=by
 refine (h.2 E.cut w a rfl hs.cut (D6 hp ha)).mono ?_
 rintro e w' ⟨v,x,h',E',hk,rfl,hn,Ay,he,hr⟩
 obtain ⟨h1,h2,h3⟩:=hs.back hn Ay he
 exact hK v h' _ w' x hk h1 h2 (hr.mono h3)
open Go
def rK:Nat->Value->V->Bool
 |0,_,_=>false
 |n+1,x,v=>match x,v with
  |.bool p,.b q=>p==q
  |.int k p,.i k' q=>decide (k=k')&&decide (p=q)
  |.string p,.s q=>decide (p.data.toList=q)
  |.pointer none,.lJ=>true
  |.slice none 0 0,.aS=>true
  |.map none,.gS=>true
  |.nilFunc,.lK=>true
  |.agg cs,.agg l=>decide (cs.size=l.length)&&cs.all (·.oneCell')&&(cs.toList.zip l).all fun q=>rK n q.1 q.2
  |.tuple cs,.bY l=>decide (cs.size=l.length)&&(cs.toList.zip l).all fun q=>rK n q.1 q.2
  |_,_=>false
theorem HY {α β:Type} {p:α×β->Bool} {l:List α} {r:List β} (h:(l.zip r).all p=true) {j:Nat} {x:α} {y:β} (hx:l[j]? =some x) (hy:r[j]? =some y):p (x,y)=true:=by
 rw [List.all_eq_true] at h
 refine h (x,y) (List.mem_of_getElem? (i:=j) ?_)
 rw [List.getElem?_zip_eq_some]
 exact ⟨hx,hy⟩
theorem lS {n:Nat}:∀ {x:Value} {v:V},rK n x v=true->∀ E,Rel E v x:=by
 induction n with
 |zero=>intro x v h;cases h
 |succ n ih=>
  intro x v h E
  unfold rK at h
  split at h
  · rw [beq_iff_eq] at h;subst h;exact .deep (.b _)
  · simp only [Bool.and_eq_true,decide_eq_true_eq] at h;obtain ⟨rfl,rfl⟩:=h;exact .deep (.i _ _)
  · simp only [decide_eq_true_eq] at h
    subst h
    rename_i p
    have:str p.data.toList=p:=by cases p;rfl
    have h2:=fF.s (I:=E.I) p.data.toList
    rw [this] at h2
    exact .deep h2
  · exact .lJ
  · exact .deep .aS
  · exact .gS
  · exact .lK
  · simp only [Bool.and_eq_true,decide_eq_true_eq] at h
    refine .agg _ _ h.1.1 ?_ fun j u y hj hy=>ih (HY h.2 (by rw [Array.getElem?_toList];exact hy) hj) E
    intro j x hx
    exact (Array.all_eq_true_iff_forall_mem.1 h.1.2) x (Array.mem_of_getElem? hx)
  · simp only [Bool.and_eq_true,decide_eq_true_eq] at h
    exact .bY _ _ h.1 fun j u y hj hy=>ih (HY h.2 (by rw [Array.getElem?_toList];exact hy) hj) E
  · cases h
def eL (x:Operand) (d:bL):Bool:=
 match x,d with
 |.tmp t,.t n=>t==n
 |.const x,.c v=>rK 4 x v
 |.func f,.c (.fn g [] [])=>f==g
 |_,_=>false
def D7:List Operand->List bL->Bool
 |[],[]=>true
 |x::r,d::q=>eL x d&&D7 r q
 |_,_=>false
def vO:Option Operand->Option bL->Bool
 |none,none=>true
 |some x,some d=>eL x d
 |_,_=>false
structure bB (E:Env) (N:Nat) (fr:Fr) (a:Act):Prop where
 size:a.tmps.size=N
 rel:∀ t,Rel E (fr.get t) (a.tmps.getD t undef)
theorem bB.mono {E F:Env} (h:E.Le F) {N:Nat} {fr:Fr} {a:Act} (hf:bB E N fr a):bB F N fr a:=⟨hf.size,fun t=>(hf.rel t).mono h⟩
theorem bG {x:Operand} {d:bL} (h:eL x d=true) {E:Env} {N:Nat} {fr:Fr} {a:Act} (hf:bB E N fr a):Rel E (d.ev fr) (a.eval x):=by
 unfold eL at h
 split at h
 · rw [beq_iff_eq] at h;subst h;exact hf.rel _
 · exact lS h E
 · rw [beq_iff_eq] at h
   subst h
   exact .fn _ _ _ _ _ rfl rfl (fun j v x hj=>by simp at hj) (fun j v x hj=>by simp at hj)
 · cases h
theorem AJ {E:Env} {N:Nat} {fr:Fr} {a:Act} (hf:bB E N fr a):∀ {xs:List Operand} {ds:List bL},D7 xs ds=true->eT E (bL.HV fr ds) (xs.map a.eval).toArray:=by
 intro xs
 induction xs with
 |nil=>
  intro ds h
  cases ds with
  |nil=>exact ⟨rfl,fun j v x hj=>by simp [bL.HV] at hj⟩
  |cons d r=>cases h
 |cons x r ih=>
  intro ds h
  cases ds with
  |nil=>cases h
  |cons d q=>
   simp only [D7,Bool.and_eq_true] at h
   have h1:=bG h.1 hf
   have h2:=ih h.2
   refine ⟨by simp [bL.HV,<-h2.1],fun j v y hj hy=>?_⟩
   cases j with
   |zero=>
    simp [bL.HV] at hj hy
    subst hj;subst hy;exact h1
   |succ j=>exact h2.2 j v y (by simpa [bL.HV] using hj) (by simpa using hy)
theorem JC {E:Env} {N:Nat} {fr:Fr} {a:Act} (hf:bB E N fr a) {x:Option Operand} {d:Option bL} (h:vO x d=true):
 (x=none/\bL.Dq fr d=none)\/∃ y v,x.map a.eval=some y/\bL.Dq fr d=some v/\Rel E v y:=by
 unfold vO at h
 split at h
 · exact .inl ⟨rfl,rfl⟩
 · exact .inr ⟨_,_,rfl,rfl,bG h hf⟩
 · cases h
section
variable {P:Program} {o:Oper} {a:Act} {w:World} {next:Act->World->Prop} {Q:Exit->Act->World->Prop}
theorem aX {x:Value} {w':World} (h:(execOp a.eval o).run P w=.ok (.value x) w') (hn:next (a.put o.dst x) w'):o.wp P a w next Q:=by
 unfold Oper.wp;rw [h];exact hn
theorem HZ {w':World} (h:(execOp a.eval o).run P w=.ok .skip w') (hn:next (a.put o.dst undef) w'):o.wp P a w next Q:=by
 unfold Oper.wp;rw [h];exact hn
end
def fV (E:Env) (st:St) (w:World) (o:Oper) (a:Act) (next:Act->World->Prop) (K:R->Prop):Prop:=
 ∀ v cB E' w' x,K (v,cB)->cH E' cB w'->Ext E st w E' cB w'->Rel E' v x->next (a.put o.dst x) w'
section
variable {P:Program} {o:Oper} {a:Act} {E:Env} {N:Nat} {st:St} {w:World} {fr:Fr} {next:Act->World->Prop} {Q:Exit->Act->World->Prop} {K:R->Prop}
theorem fV.same (hc:fV E st w o a next K) (hs:cH E st w) {v:V} {x:Value} (hk:K (v,st)) (hr:Rel E v x):next (a.put o.dst x) w:=
 hc v st E w x hk hs (.refl E st w) hr
theorem UO {x:Operand} {d:bL} (ho:o.op=.move x) (hx:eL x d=true) (hs:cH E st w) (hf:bB E N fr a)
 (hw:(step (.mv d) fr st).wp (aC P) K) (hc:fV E st w o a next K):o.wp P a w next Q:=
 aX (x:=a.eval x) (by simp [execOp,ho]) (hc.same hs hw (bG hx hf))
theorem Q0 {x:Operand} {d:bL} (ho:o.op=.assign x) (hx:eL x d=true) (hs:cH E st w) (hf:bB E N fr a)
 (hw:(step (.Nv d) fr st).wp (aC P) K) (hc:fV E st w o a next K):o.wp P a w next Q:=
 aX (x:=a.eval x) (by simp [execOp,ho]) (hc.same hs hw (bG hx hf))
theorem Rel.bool {x:Bool} {y:Value} (h:Rel E (.b x) y):y=.bool x:=by cases h with|deep h=>cases h;rfl
theorem Rel.int {k:IntKind} {n:Int} {y:Value} (h:Rel E (.i k n) y):y=.int k n:=by cases h with|deep h=>cases h;rfl
theorem Rel.C8 {l:List UInt8} {y:Value} (h:Rel E (.s l) y):y=.string (str l):=by cases h with|deep h=>cases h;rfl
theorem OS {x y z:Operand} {c d e:bL} (ho:o.op=.pick x y z) (hx:eL x c=true) (hy:eL y d=true) (hz:eL z e=true) (hs:cH E st w) (hf:bB E N fr a)
 (hw:(step (.pick c d e) fr st).wp (aC P) K) (hc:fV E st w o a next K):o.wp P a w next Q:=by
 have h1:=bG hx hf
 simp only [step] at hw
 split at hw
 · rename_i b hb
   rw [hb] at h1
   have h1:=h1.bool
   cases b with
   |true=>exact aX (x:=a.eval y) (by simp [execOp,ho,asBool,h1]) (hc.same hs (hw.1 rfl) (bG hy hf))
   |false=>exact aX (x:=a.eval z) (by simp [execOp,ho,asBool,h1]) (hc.same hs (hw.2 rfl) (bG hz hf))
 · exact hw.elim
end
end Go.Eng
