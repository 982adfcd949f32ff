/-
A loop over a map: whichever entry comes next.
-/
import Derived.Test.YtmfelikepmmjkaaGreatX28
import Derived.Maps.RangeRun
import Derived.Test.YtmfelikepmmjkaaGreatX09
import Derived.Test.YtmfelikepmmjkaaGreatX06
import Derived.Test.YtmfelikepmmjkaaGreatRows
import Derived.KernelRfl
set_option linter.unusedVariables false
set_option linter.unusedSimpArgs false
set_option maxRecDepth 1000000
namespace Go.Eng
open Go Go.ChangeMaps
def St.ins (st:St) (k:Key) (o:Obj):St:=
 match k with
 |.g n=>⟨⟨st.g.next,(n,o)::st.g.tP⟩,st.l⟩
 |.l n=>⟨st.g,⟨st.l.next,(n,o)::st.l.tP⟩⟩
theorem St.By (st:St) (k k':Key) (o:Obj):(st.ins k o).get k'=if k'=k then some o else st.get k':=by
 cases k<;>cases k'<;>simp [St.ins,St.get,aA.get,aA.find,eq_comm]
structure St.Qd (a b:St):Prop where
 g:a.g.next=b.g.next
 l:a.l.next=b.l.next
 get:∀ k,a.get k=b.get k
theorem St.Qd.live {a b:St} (h:St.Qd a b) {k:Key}:a.live k↔b.live k:=by unfold St.live;rw [h.get]
theorem cH.same {E:Env} {a b:St} {w:World} (hs:cH E a w) (h:St.Qd b a):cH E b w:=
 ⟨h.g.trans hs.ng,h.l.trans hs.nl,fun k hk=>hs.j7 k (h.live.1 hk),hs.j6,fun k o hk=>hs.obj k o (by rw [<-h.get];exact hk),fun k k' hk iT=>hs.sep k k' (h.live.1 hk) (h.live.1 iT),fun k hk=>hs.own k (h.live.1 hk)⟩
theorem Ext.TL {E:Env} {st:St} {w:World} {E':Env} {a b:St} {w':World} (he:Ext E st w E' a w') (h:St.Qd b a):Ext E st w E' b w':=
 ⟨he.le,he.size,he.fT,fun k hk=>he.gT k (h.live.1 hk),fun k hk=>he.iB k (h.live.1 hk),he.same,he.os,he.out,he.tape⟩
theorem St.HG {h lo:aA} {mk:Nat} {o:Obj} (hm:h.get mk=some o):St.Qd ⟨h,lo⟩ (St.ins ⟨h.remove mk,lo⟩ (.g mk) o):=by
 refine ⟨rfl,rfl,fun k=>?_⟩
 rw [St.By]
 split
 · rename_i e;subst e;exact hm
 · rename_i e
   cases k with
   |g n=>
    show h.get n=(h.remove mk).get n
    rw [aA.jN,if_neg fun c=>e (by rw [c])]
   |l n=>rfl
def St.bump (st:St):St:=⟨st.g,⟨st.l.next+1,st.l.tP⟩⟩
theorem St.Bz (st:St) (k:Key):st.bump.get k=st.get k:=by cases k<;>rfl
theorem St.nN {st:St} {k:Key}:st.bump.live k↔st.live k:=by unfold St.live;rw [St.Bz]
abbrev Env.aside (E:Env) (r:Nat):Env:=E.push false ⟨r,0,0⟩ fun _ _=>none
theorem Env.DR (E:Env) (r b o:Nat):(E.aside r).I b o=E.I b o:=by
 simp only [Env.aside,Env.push]
 cases E.I b o<;>rfl
theorem Env.BA (E:Env) (r:Nat):E.Le (E.aside r):=Env.rJ _ _ _ _
theorem Env.tK {E:Env} {r:Nat} {k:Key} (hk:E.has k):(E.aside r).μ k=E.μ k:=(E.BA r).loc k hk
theorem cH.aside {E:Env} {st:St} {w w':World} (h:cH E st w) {ob:Go.Obj} (hh:w'.heap=w.heap.push ob):cH (E.aside w.heap.size) st.bump w':=by
 have hle:=E.BA w.heap.size
 have hold:∀ b,b<w.heap.size->w'.heap[b]? =w.heap[b]? :=fun b hb=>by rw [hh,Array.getElem?_push,if_neg (by omega)]
 have cO:∀ b o x,bM w b o=some x->b<w.heap.size:=by
  intro b o x hx
  rcases Nat.lt_or_ge b w.heap.size with hl|hl
  · exact hl
  · simp [bM,Array.getElem?_eq_none hl] at hx
 refine ⟨h.ng,?_,fun k hk=>hle.has (h.j7 k (St.nN.1 hk)),fun b o x hx=>?_,fun k o hk=>?_,fun k k' hk iT dJ=>?_,fun k hk j h1 h2=>?_⟩
 · show st.l.next+1=E.nl+1
   rw [h.nl]
 · rw [Env.DR] at hx
   have:=h.j6 b o x hx
   simp only [bM,hold b (cO _ _ _ this)] at*
   exact this
 · rw [St.Bz] at hk
   have hl:st.live k:=⟨o,hk⟩
   have:=h.obj k o hk
   rw [Env.tK (h.j7 k hl)]
   exact Holds.dZ (Env.jC hle k) (hold _ (h.lt hl)) this
 · have h1:=St.nN.1 hk
   have h2:=St.nN.1 iT
   rw [Env.tK (h.j7 k h1),Env.tK (h.j7 k' h2)]
   exact h.sep k k' h1 h2 dJ
 · have hl:=St.nN.1 hk
   rw [Env.tK (h.j7 k hl)] at h1 h2 ⊢
   rw [Env.DR]
   exact h.own k hl j h1 h2
theorem Ext.aside {E0:Env} {st0:St} {w0:World} {E:Env} {st:St} {w w':World} (he:Ext E0 st0 w0 E st w) (hs:cH E st w) {ob:Go.Obj} (hh:w'.heap=w.heap.push ob) (h1:w'.os=w.os) (h2:w'.output=w.output) (h3:w'.tape=w.tape):
 Ext E0 st0 w0 (E.aside w.heap.size) st.bump w':=by
 refine he.trans ⟨E.BA _,by rw [hh];simp,fun b o x hx=>.inl (by rwa [Env.DR] at hx),fun k hk _=>St.nN.1 hk,fun k hk hn=>absurd (hs.j7 k (St.nN.1 hk)) hn,fun b hb _=>?_,h1,h2,h3⟩
 rw [hh,Array.getElem?_push,if_neg (by omega)]
theorem cH.less {E:Env} {st:St} {w:World} (h:cH E st w) (k:Key):cH E (st.remove k) w:=by
 have hg:∀ k' o,(st.remove k).get k'=some o->st.get k'=some o:=by
  intro k' o ho
  rw [St.jN] at ho
  split at ho
  · cases ho
  · exact ho
 have hl:∀ k',(st.remove k).live k'->st.live k':=fun k' ⟨o,ho⟩=>⟨o,hg k' o ho⟩
 refine ⟨?_,?_,fun k' hk=>h.j7 k' (hl k' hk),h.j6,fun k' o hk=>h.obj k' o (hg k' o hk),fun k1 k2 h1 h2=>h.sep k1 k2 (hl _ h1) (hl _ h2),fun k' hk=>h.own k' (hl _ hk)⟩
 · rw [<-h.ng];cases k<;>rfl
 · rw [<-h.nl];cases k<;>rfl
theorem cH.U2 {E:Env} {st:St} {w w':World} (h:cH E st w) {r:Nat} (hb:∀ b,b≠r->w'.heap[b]? =w.heap[b]?) (hk:∀ k,st.live k->(E.μ k).bS≠r) (hi:∀ j,E.I r j=none):cH E st w':=by
 refine ⟨h.ng,h.nl,h.j7,fun b o x hx=>?_,fun k o ho=>Holds.dZ (.refl _) (hb _ (hk k ⟨o,ho⟩)) (h.obj k o ho),h.sep,h.own⟩
 by_cases hbr:b=r
 · subst hbr;rw [hi] at hx;cases hx
 · have:=h.j6 b o x hx
   simp only [bM,hb b hbr] at*
   exact this
structure Qe (mk yM:Key) (kd:Option IntKind) (es:List (V×V)) (bU:Array MapEntry) (clock r:Nat) (E:Env) (st:St) (w:World) (seen:Array Nat):Prop where
 hm:E.has mk
 hi:E.has yM
 ei:E.μ yM=⟨r,0,0⟩
 bm:w.heap[(E.μ mk).bS]? =some (.map bU clock)
 it:w.heap[r]? =some (.mapIter (some (E.μ mk).bS) clock seen clock)
 bo:C7 bU clock
 sz:bU.size=es.length
 rel:∀ (j:Nat) (q:V×V) (e:MapEntry),es[j]? =some q->bU[j]? =some e->fF E.I q.1 e.key/\q.1.fR kd=true/\Rel (E.at mk) q.2 e.val
 apart:∀ k,st.live k->(E.μ k).bS≠(E.μ mk).bS/\(E.μ k).bS≠r
 own:∀ j,(E.μ mk).base<=j->j<(E.μ mk).fin->E.I (E.μ mk).bS j=none
theorem Qe.step {mk yM:Key} {kd:Option IntKind} {es:List (V×V)} {bU:Array MapEntry} {clock r:Nat} {E:Env} {st:St} {w:World} {seen:Array Nat} (h:Qe mk yM kd es bU clock r E st w seen)
 {E':Env} {cB:St} {w':World} (he:Ext E st w E' cB w'):Qe mk yM kd es bU clock r E' cB w' seen:=by
 have e1:=he.le.loc mk h.hm
 have l1:(E.μ mk).bS<w.heap.size:=(Array.getElem?_eq_some_iff.1 h.bm).1
 have l2:r<w.heap.size:=(Array.getElem?_eq_some_iff.1 h.it).1
 refine ⟨he.le.has h.hm,he.le.has h.hi,(he.le.loc yM h.hi).trans h.ei,?_,?_,h.bo,h.sz,fun j q e h1 h2=>?_,fun k hk=>?_,fun j h1 h2=>?_⟩
 · rw [e1,he.same _ l1 fun k hk=>(h.apart k hk).1];exact h.bm
 · rw [e1,he.same _ l2 fun k hk=>(h.apart k hk).2];exact h.it
 · obtain ⟨a,b,c⟩:=h.rel j q e h1 h2
   exact ⟨a.mono he.le.j6,b,c.mono (Env.jC he.le mk)⟩
 · rw [e1]
   by_cases hh:E.has k
   · rw [he.le.loc k hh];exact h.apart k (he.gT k hk hh)
   · rcases he.iB k hk hh with h1|⟨k0,h1,h2⟩
     · exact ⟨by omega,by omega⟩
     · rw [<-h2];exact h.apart k0 h1
 · rw [e1] at h1 h2 ⊢
   cases hx:E'.I (E.μ mk).bS j with
   |none=>rfl
   |some x=>
    rcases he.fT _ _ _ hx with h3|h3|⟨k,h3,h4⟩
    · rw [h.own j h1 h2] at h3;cases h3
    · omega
    · exact absurd h4 (h.apart k h3).1
theorem Qe.back {mk yM:Key} {kd:Option IntKind} {es:List (V×V)} {bU:Array MapEntry} {clock r:Nat} {E:Env} {st:St} {w:World} {seen:Array Nat} (h:Qe mk yM kd es bU clock r E st w seen) (hs:cH E st w):cH E (st.ins mk (.mp kd es)) w:=by
 have hl:∀ k,(st.ins mk (.mp kd es)).live k->k=mk\/k≠mk/\st.live k:=by
  rintro k ⟨o,ho⟩
  rw [St.By] at ho
  split at ho
  · exact .inl ‹_›
  · exact .inr ⟨‹_›,o,ho⟩
 refine ⟨?_,?_,fun k hk=>?_,hs.j6,fun k o ho=>?_,fun k k' hk iT dJ=>?_,fun k hk j h1 h2=>?_⟩
 · rw [<-hs.ng];cases mk<;>rfl
 · rw [<-hs.nl];cases mk<;>rfl
 · rcases hl k hk with rfl|⟨_,h1⟩
   · exact h.hm
   · exact hs.j7 k h1
 · rw [St.By] at ho
   split at ho
   · rename_i hk
     cases ho
     subst hk
     exact ⟨bU,clock,h.bm,h.sz,fun j q e h1 h2=>by
      obtain ⟨a,b,c⟩:=h.rel j q e h1 h2
      exact ⟨by cases k<;>exact a,b,c⟩,h.bo⟩
   · exact hs.obj k o ho
 · rcases hl k hk with rfl|⟨_,h1⟩<;>rcases hl k' iT with rfl|⟨_,h2⟩
   · exact absurd rfl dJ
   · exact Ne.symm (h.apart k' h2).1
   · exact (h.apart k h1).1
   · exact hs.sep k k' h1 h2 dJ
 · rcases hl k hk with rfl|⟨_,h3⟩
   · exact h.own j h1 h2
   · exact hs.own k h3 j h1 h2
theorem Ext.ins {E:Env} {st:St} {w:World} {E':Env} {cB:St} {w':World} (he:Ext E st w E' cB w') {mk:Key} (o:Obj) (hm:E.has mk):Ext E (st.ins mk o) w E' (cB.ins mk o) w':=by
 have hl:∀ (a:St) k,(a.ins mk o).live k↔k=mk\/a.live k:=by
  intro a k
  unfold St.live
  rw [St.By]
  split
  · rename_i h;simp [h]
  · rename_i h;simp [h]
 refine ⟨he.le,he.size,fun b j x hx=>?_,fun k hk hh=>?_,fun k hk hh=>?_,fun b hb hn=>he.same b hb fun k hk=>hn k ((hl st k).2 (.inr hk)),he.os,he.out,he.tape⟩
 · rcases he.fT b j x hx with h1|h1|⟨k,h1,h2⟩
   · exact .inl h1
   · exact .inr (.inl h1)
   · exact .inr (.inr ⟨k,(hl st k).2 (.inr h1),h2⟩)
 · rcases (hl cB k).1 hk with rfl|h1
   · exact (hl st k).2 (.inl rfl)
   · exact (hl st k).2 (.inr (he.gT k h1 hh))
 · rcases (hl cB k).1 hk with rfl|h1
   · exact absurd hm hh
   · rcases he.iB k h1 hh with h2|⟨k0,h2,h3⟩
     · exact .inl h2
     · exact .inr ⟨k0,(hl st k0).2 (.inr h2),h3⟩
def tM (es:List (V×V)) (bU:Array MapEntry) (seen:Array Nat):List (V×V):=((es.zip bU.toList).filter fun p=>!seen.contains p.2.born).map Prod.fst
theorem Qf {es:List (V×V)} {bU:Array MapEntry} {seen:Array Nat} (h:(leftOf bU seen).size=0):tM es bU seen=[]:=by
 have h0:leftOf bU seen=#[]:=Array.eq_empty_of_size_eq_zero h
 unfold leftOf at h0
 unfold tM
 rw [List.map_eq_nil_iff,List.filter_eq_nil_iff]
 intro p hp
 have hm:p.2∈bU:=by simpa using (List.of_mem_zip hp).2
 have:=(Array.filter_eq_empty_iff.1 h0) p.2 hm
 simpa using this
theorem Qg {es:List (V×V)} {bU:Array MapEntry} (h:bU.size=es.length):tM es bU #[]=es:=by
 unfold tM
 rw [List.filter_eq_self.2 (fun p _=>by simp),List.map_fst_zip]
 simp [h]
theorem contains_push (seen:Array Nat) (b c:Nat):(seen.push b).contains c=(seen.contains c||decide (c=b)):=by
 rw [Bool.eq_iff_iff]
 simp
theorem FO {b:Nat}:∀ {Z:List ((V×V)×MapEntry)} (seen:Array Nat) {j:Nat} {p:(V×V)×MapEntry},(Z.map fun q=>q.2.born).Nodup->Z[j]? =some p->p.2.born=b->seen.contains b=false->
 ∃ A B,Z.filter (fun q=>!seen.contains q.2.born)=A++p::B/\Z.filter (fun q=>!(seen.push b).contains q.2.born)=A++B
 |[],_,_,_,_,h,_,_=>by simp at h
 |q::Z,seen,0,p,hn,h,hb,hs=>by
  simp only [List.getElem?_cons_zero,Option.some.injEq] at h
  subst h
  rw [List.map_cons,List.nodup_cons] at hn
  refine ⟨[],Z.filter fun q=>!seen.contains q.2.born,?_,?_⟩
  · rw [List.filter_cons_of_pos (by rw [hb,hs];rfl)];rfl
  · rw [List.filter_cons_of_neg (by rw [contains_push,hb,decide_eq_true rfl];simp)]
    refine List.filter_congr fun x hx=>?_
    have:x.2.born≠b:=fun e=>hn.1 (List.mem_map.2 ⟨x,hx,e.trans hb.symm⟩)
    rw [contains_push,decide_eq_false this,Bool.or_false]
 |q::Z,seen,j+1,p,hn,h,hb,hs=>by
  rw [List.map_cons,List.nodup_cons] at hn
  rw [List.getElem?_cons_succ] at h
  obtain ⟨A,B,h1,h2⟩:=FO seen hn.2 h hb hs
  have:q.2.born≠b:=fun e=>hn.1 (List.mem_map.2 ⟨p,List.mem_of_getElem? h,hb.trans e.symm⟩)
  rw [List.filter_cons,List.filter_cons,contains_push,decide_eq_false this,Bool.or_false,h1,h2]
  cases seen.contains q.2.born
  · exact ⟨q::A,B,rfl,rfl⟩
  · exact ⟨A,B,rfl,rfl⟩
theorem Nj {es:List (V×V)} {bU:Array MapEntry} {clock:Nat} {seen:Array Nat} (hb:C7 bU clock) (hz:bU.size=es.length) {e:MapEntry} (he:e∈(leftOf bU seen).toList):
 ∃ (L1:List (V×V)) (q:V×V) (L2:List (V×V)) (j:Nat),tM es bU seen=L1++q::L2/\tM es bU (seen.push e.born)=L1++L2/\es[j]? =some q/\bU[j]? =some e:=by
 unfold leftOf at he
 have he:e∈bU.filter fun e=>!seen.contains e.born:=Array.mem_def.2 he
 rw [Array.mem_filter] at he
 obtain ⟨h1,h2⟩:=he
 obtain ⟨j,hj,hje⟩:=Array.getElem_of_mem h1
 have V9:j<es.length:=by omega
 have hzj:(es.zip bU.toList)[j]? =some (es[j],e):=by
  rw [List.getElem?_zip_eq_some]
  exact ⟨List.getElem?_eq_getElem V9,by simp [hj,hje]⟩
 have ajF:((es.zip bU.toList).map fun q=>q.2.born)=bU.toList.map (·.born):=by
  rw [show (fun q:(V×V)×MapEntry=>q.2.born)=(fun e:MapEntry=>e.born) ∘ Prod.snd from rfl,<-List.map_map,List.map_snd_zip (by simp [hz])]
 obtain ⟨A,B,h3,h4⟩:=FO seen (b:=e.born) (by rw [ajF];exact hb.2) hzj rfl (by simpa using h2)
 refine ⟨A.map Prod.fst,es[j],B.map Prod.fst,j,?_,?_,List.getElem?_eq_getElem V9,by simp [hj,hje]⟩
 · unfold tM;rw [h3];simp
 · unfold tM;rw [h4];simp
structure C1 where
 pre:List dL
 m:bL
 it:Nat
 nx:Nat
 tx:Nat
 en:Nat
 b0:Nat
 b1:Nat
 post:List dL
 body:AC
 deriving Inhabited
def Ld (mk:Key) (o:Obj) (Q:Ex->Fr->St->Prop) (e:Ex) (fr:Fr) (st:St):Prop:=∃ st2,St.Qd st2 (st.ins mk o)/\Q e fr st2
def Y4 (b0 b1:Nat) (R:Fr->St->Prop) (mk:Key) (o:Obj) (Q:Ex->Fr->St->Prop):Ex->Fr->St->Prop
 |.normal,fr,st=>R fr st
 |.exit id,fr,st=>if id=b1 then R fr st else if id=b0 then Ld mk o Q .normal fr st else Ld mk o Q (.exit id) fr st
 |.ret,fr,st=>Ld mk o Q .ret fr st
def Y5 (A:b7) (n:C1) (mk yM:Key) (o:Obj) (Q:Ex->Fr->St->Prop) (R:List (V×V)->Fr->St->Prop) (left:List (V×V)) (fr:Fr) (st:St):Prop:=
 fr.get n.it=.p yM 0/\(left=[]->fr.cut [n.nx,n.tx] fun fr=>Ld mk o Q .normal fr st)/\
 ∀ L1 x L2,left=L1++x::L2->fr.cut [n.nx,n.tx,n.en] fun fr=>QG A (.seq (.BE n.post) n.body) (Y4 n.b0 n.b1 (R (L1++L2)) mk o Q) ((n.en,.bY [x.1,x.2])::fr) st
structure VU (A:b7) (n:C1) (mk yM:Key) (o:Obj) (Q:Ex->Fr->St->Prop) (es:List (V×V)) (fr:Fr) (st:St):Prop where
 h:∀ R:List (V×V)->Fr->St->Prop,(∀ left fr cF st,Fr.le cF fr->Y5 A n mk yM o Q R left cF st->R left fr st)->R es fr st
def spN (A:b7) (n:C1) (Q:Ex->Fr->St->Prop) (fr:Fr) (st:St):Prop:=
 (mK n.pre fr st).sv A fun x=>match x with
   |(fr,st)=>match n.m.ev fr with
    |.m mk=>cK (st.get mk) fun o=>match o with
     |.mp kd es=>VU A n mk (.l st.l.next) (.mp kd es) Q es ((n.it,.p (.l st.l.next) 0)::fr) (st.remove mk).bump
     |_=>False
    |_=>False
inductive RC where
 |ac (c:AC)
 |seq (a b:RC)
 |rng (n:C1)
 deriving Inhabited
def spR (A:b7):RC->(Ex->Fr->St->Prop)->Fr->St->Prop
 |.ac c,Q,fr,st=>QG A c Q fr st
 |.seq a b,Q,fr,st=>spR A a (qG (spR A b Q) Q) fr st
 |.rng n,Q,fr,st=>spN A n Q fr st
theorem VU.by {A:b7} {n:C1} {mk yM:Key} {o:Obj} {Q:Ex->Fr->St->Prop} {es:List (V×V)} {fr:Fr} {st:St} (I:List (V×V)->Fr->St->Prop) (h0:I es fr st)
 (hs:∀ left fr st,I left fr st->∃ cF,Fr.le cF fr/\∀ R:List (V×V)->Fr->St->Prop,(∀ l fr st,l.length<left.length->I l fr st->R l fr st)->Y5 A n mk yM o Q R left cF st):VU A n mk yM o Q es fr st:=by
 refine ⟨fun R hR=>?_⟩
 have key:∀ (k:Nat) left fr st,left.length=k->I left fr st->R left fr st:=by
  intro k
  induction k using Nat.strongRecOn with
  |_ k ih=>
   intro left fr st hk hi
   obtain ⟨cF,hle,hx⟩:=hs left fr st hi
   exact hR left fr cF st hle (hx R fun l fr st hm hi=>ih l.length (by omega) l fr st rfl hi)
 exact key es.length es fr st rfl h0
def FP (P:Program) (N:Nat) (ops:Array Oper):List Oper->List dL->bL->Nat->Bool
 |[o],[],m,it=>decide (o.guard=none)&&decide (o.dst=some it)&&decide (it<N)&&(match o.op with
  |.range t x=>eL x m&&(match P.underlying t with
   |some (.map _ _)=>true
   |_=>false)
  |_=>false)
 |o::l,A::asV,m,it=>Mh P o.op A.op&&decide (A.dst=o.dst)&&JV N o.dst&&mE ops o.guard A.guard&&FP P N ops l asV m it
 |_,_,_,_=>false
theorem C2 {P:Program} {N:Nat} {ops:Array Oper} {m:bL} {it:Nat}:∀ {l:List Oper} {asV:List dL},FP P N ops l asV m it=true->
 ∃ l' o t x k e,l=l'++[o]/\zF P N ops l' asV=true/\o.guard=none/\o.dst=some it/\it<N/\o.op=.range t x/\eL x m=true/\P.underlying t=some (.map k e)
 |[],_,h=>by simp [FP] at h
 |[o],[],h=>by
  simp only [FP,Bool.and_eq_true,decide_eq_true_eq] at h
  obtain ⟨⟨⟨h1,h2⟩,h3⟩,h4⟩:=h
  split at h4
  · rename_i t x ho
    simp only [Bool.and_eq_true] at h4
    obtain ⟨h5,h6⟩:=h4
    split at h6
    · rename_i k e hu
      exact ⟨[],o,t,x,k,e,rfl,rfl,h1,h2,h3,ho,h5,hu⟩
    · cases h6
  · cases h4
 |o::o'::l,[],h=>by simp [FP] at h
 |o::l,A::asV,h=>by
  simp only [FP,Bool.and_eq_true] at h
  obtain ⟨h1,h2⟩:=h
  obtain ⟨l',o',t,x,k,e,rfl,h3,h4⟩:=C2 h2
  exact ⟨o::l',o',t,x,k,e,rfl,by simp only [zF,h3,Bool.and_true,Bool.and_eq_true];exact h1,h4⟩
def Nk (N:Nat) (ops:Array Oper) (it nx tx:Nat):Bool:=
 match ops.toList with
 |[o,o']=>decide (o.guard=none)&&decide (o'.guard=none)&&decide (o.dst=some nx)&&decide (o'.dst=some tx)&&decide (nx<N)&&decide (tx<N)&&decide (nx≠it)&&decide (tx≠it)&&(match o.op with
  |.next x false=>eL x (.t it)
  |_=>false)&&(match o'.op with
  |.extract x 0=>eL x (.t nx)
  |_=>false)
 |_=>false
def TM (P:Program) (N:Nat) (ops:Array Oper) (it en:Nat) (post:List dL):Bool:=
 match ops.toList with
 |o::l=>decide (o.guard=none)&&decide (o.dst=some en)&&decide (en<N)&&(match o.op with
  |.entry x=>eL x (.t it)
  |_=>false)&&zF P N ops l post
 |_=>false
def TN (P:Program) (N:Nat) (c:Code) (n:C1):Bool:=
 match c with
 |.seq (.region _ o1 d1) (.block i0 (.loop (.seq (.region _ o2 d2) (.seq (.cond cx sk (.exit i0')) (.block i1 (.seq (.region _ o3 d3) body))))))=>
  !d1&&!d2&&!d3&&decide (i0=n.b0)&&decide (i0'=n.b0)&&decide (i1=n.b1)&&FP P N o1 o1.toList n.pre n.m n.it&&Nk N o2 n.it n.nx n.tx&&eL cx (.t n.tx)&&yV P N sk .skip&&
   TM P N o3 n.it n.en n.post&&yV P N body n.body
 |_=>false
def okR (P:Program) (N:Nat):Code->RC->Bool
 |c,.ac A=>yV P N c A
 |.seq a b,.seq A B=>okR P N a A&&okR P N b B
 |c,.rng n=>TN P N c n
 |_,_=>false
structure RFn where
 nparams:Nat
 body:RC
 results:List RV
 deriving Inhabited
def C3 (P:Program) (f:Nat) (F:RFn):Bool:=
 match P.funcs[f]? with
 |some fn=>match fn.body with
  |some c=>sE P f&&okR P fn.ntmps c F.body&&rM P fn.results.toList F.results&&decide (F.nparams<=fn.ntmps)
  |none=>false
 |none=>false
section
variable {P:Program} {N:Nat} {ops:Array Oper}
theorem Lf {Q:Exit->Act->World->Prop} {i:Nat} {rest:List Nat} {a:Act} {w:World} {o:Oper} (ho:ops[i]? =some o) (hg:o.guard=none) (h:o.wp P a w (wpOps P ops Q rest) Q):wpOps P ops Q (i::rest) a w:=by
 simp only [wpOps,ho]
 rw [if_pos (by simp [Region.wanted,hg])]
 exact .inl h
theorem tN {o:Oper} {a:Act} {w w':World} {v:Value} {next:Act->World->Prop} {Q:Exit->Act->World->Prop} (h:(execOp a.eval o).run P w=.ok (.value v) w') (hn:next (a.put o.dst v) w'):o.wp P a w next Q:=by
 unfold Oper.wp
 rw [h]
 exact hn
theorem bB.skip {E:Env} {fr:Fr} {a:Act} (hf:bB E N fr a) {d:Nat} {x:Value} (hj:fr.get d=.gD):bB E N fr (a.put (some d) x):=by
 refine ⟨by simp [Act.put,hf.size],fun t=>?_⟩
 by_cases ht:d=t
 · subst ht;rw [hj];exact .gD _
 · have:(a.put (some d) x).tmps.getD t undef=a.tmps.getD t undef:=by
    simp only [Act.put,Array.getD_eq_getD_getElem?]
    rw [Array.getElem?_setIfInBounds_ne ht]
   rw [this]
   exact hf.rel t
theorem bB.oY {E:Env} {fr:Fr} {a:Act} (hf:bB E N fr a) (ks:List Nat):bB E N (fr.oY ks) a:=by
 refine ⟨hf.size,fun t=>?_⟩
 rw [Fr.iC]
 split
 · exact .gD _
 · exact hf.rel t
theorem Ji {o:Oper} {a:Act} {w:World} {t k e:TypeId} {x:Operand} {bm:Nat} {es:Array MapEntry} {clock:Nat} (ho:o.op=.range t x) (ht:P.underlying t=some (.map k e)) (hx:a.eval x=.map (some bm)) (hb:w.heap[bm]? =some (.map es clock)):
 (execOp a.eval o).run P w=.ok (.value (.pointer (some ⟨w.heap.size,0,none⟩))) (w.alloc (.mapIter (some bm) clock #[] clock)):=by
 simp [execOp,ho,hx,run_range_map w t k e bm es clock ht hb,Result.andThen]
theorem C4 {o:Oper} {a:Act} {w w':World} {x:Operand} {it v:Value} (ho:o.op=.next x false) (hx:a.eval x=it) (hr:(Instr.next it false o.type).run P w=.ok v w'):(execOp a.eval o).run P w=.ok (.value v) w':=by
 simp [execOp,ho,hx,hr,Result.andThen]
theorem Jj {o:Oper} {a:Act} {w w':World} {x:Operand} {it v:Value} (ho:o.op=.entry x) (hx:a.eval x=it) (hr:(Instr.entry it).run P w=.ok v w'):(execOp a.eval o).run P w=.ok (.value v) w':=by
 simp [execOp,ho,hx,hr,Result.andThen]
theorem C5 {o:Oper} {a:Act} {w:World} {x:Operand} {vs:Array Value} {v:Value} (ho:o.op=.extract x 0) (hx:a.eval x=.tuple vs) (hv:vs[0]? =some v):(execOp a.eval o).run P w=.ok (.value v) w:=by
 simp [execOp,ho,hx,Instr.extract,hv]
theorem OE {x:Operand} {n:Nat} (h:eL x (.t n)=true):x=.tmp n:=by
 cases x<;>simp [eL] at h
 exact congrArg _ h
variable {E0:Env} {st0:St} {w0:World}
def TO (P:Program) (N:Nat) (E0:Env) (st0:St) (w0:World) (c:Code) (Q:Ex->Fr->St->Prop):Exit->Act->World->Prop
 |.normal,a,w=>iZ P c (rC N E0 st0 w0 Q) a w
 |e,a,w=>rC N E0 st0 w0 Q e a w
theorem iZ.next {c:Code} {Q:Ex->Fr->St->Prop} {a:Act} {w:World} (h:c.wp P (TO P N E0 st0 w0 c Q) a w):iZ P c (rC N E0 st0 w0 Q) a w:=by
 intro b k cs
 obtain ⟨e,a₁,w₁,hq,Ir⟩:=h b (.inLoop c::k) cs
 cases e with
 |normal=>
  obtain ⟨e₂,a₂,w₂,hq₂,RW⟩:=hq b k cs
  exact ⟨e₂,a₂,w₂,hq₂,.of_steps (Steps.trans Ir (.one step_inLoop)) RW⟩
 |exit id=>exact ⟨.exit id,a₁,w₁,hq,.pass (x:=.inLoop c) rfl (fun _ _=>.inl (by simp)) Ir⟩
 |ret=>exact ⟨.ret,a₁,w₁,hq,.pass (x:=.inLoop c) rfl (fun _ _=>.inl (by simp)) Ir⟩
 |goto l=>exact hq.elim
 |panic ch=>exact hq.elim
 |outgrown=>exact hq.elim
theorem round_ok {n:C1} {o2 o3:Array Oper} {cx:Operand} {sk body:Code} {id2 id3:Nat} {c:Code} (k2:Nk N o2 n.it n.nx n.tx=true) (k3:eL cx (.t n.tx)=true) (k4:yV P N sk .skip=true) (k5:TM P N o3 n.it n.en n.post=true) (k6:yV P N body n.body=true)
 (Q:Ex->Fr->St->Prop) {mk yM:Key} {kd:Option IntKind} {es:List (V×V)} {bU:Array MapEntry} {clock r:Nat} (GL:w0.heap.size<=r) {o:Obj} (ho:o=.mp kd es)
 {left:List (V×V)} {fr:Fr} {st:St} {E:Env} {w:World} {a:Act} {seen:Array Nat} (OF:left=tM es bU seen) (ht:Qe mk yM kd es bU clock r E st w seen) (hs:cH E st w) (he:Ext E0 st0 w0 E (st.ins mk o) w) (hf:bB E N fr a) (hd:a.defers=[])
 (hx:Y5 (aC P) n mk yM o Q (fun left fr st=>∀ (E:Env) (w:World) (a:Act) (seen:Array Nat),left=tM es bU seen->Qe mk yM kd es bU clock r E st w seen->cH E st w->Ext E0 st0 w0 E (st.ins mk o) w->bB E N fr a->a.defers=[]->iZ P c (rC N E0 st0 w0 (j9 n.b0 Q)) a w) left fr st):
 (Code.seq (.region id2 o2 false) (.seq (.cond cx sk (.exit n.b0)) (.block n.b1 (.seq (.region id3 o3 false) body)))).wp P (TO P N E0 st0 w0 c (j9 n.b0 Q)) a w:=by
 obtain ⟨hit,El,adW⟩:=hx
 have Y6:=ht.bm
 have VV:=ht.it
 have adX:(E.μ mk).bS≠r:=fun e=>by rw [e,VV] at Y6;cases Y6
 have leave:∀ (e:Ex) (E':Env) (cF:Fr) (cB:St) (w':World) (a':Act) (W9:Array Nat),Qe mk yM kd es bU clock r E' cB w' W9->cH E' cB w'->Ext E0 st0 w0 E' (cB.ins mk o) w'->bB E' N cF a'->a'.defers=[]->Ld mk o Q e cF cB->
  Iq N E0 st0 w0 (Q e) a' w':=by
  rintro e E' cF cB w' a' W9 t1 s1 x1 f1 d1 ⟨st2,lA,hq⟩
  exact ⟨cF,st2,E',hq,(by rw [ho] at lA;exact (t1.back s1).same lA),x1.TL lA,f1,d1⟩
 unfold Nk at k2
 split at k2
 case h_2=>cases k2
 rename_i oN oX hol
 simp only [Bool.and_eq_true,decide_eq_true_eq] at k2
 obtain ⟨⟨⟨⟨⟨⟨⟨⟨⟨g1,g2⟩,d1⟩,d2⟩,n1⟩,n2⟩,ne1⟩,ne2⟩,p1⟩,p2⟩:=k2
 split at p1
 case h_2=>cases p1
 rename_i xN hoN
 split at p2
 case h_2=>cases p2
 rename_i xX hoX
 have e1:=OE p1
 have e2:=OE p2
 have e3:=OE k3
 subst e1 e2 e3
 have lI:o2.size=2:=by rw [<-Array.length_toList,hol];rfl
 have W8:o2[0]? =some oN:=by rw [<-Array.getElem?_toList,hol];rfl
 have ZZ:o2[1]? =some oX:=by rw [<-Array.getElem?_toList,hol];rfl
 have hia:a.eval (.tmp n.it)=.pointer (some ⟨r,0,none⟩):=by
  have h:=hf.rel n.it
  rw [hit] at h
  show a.tmps.getD n.it undef=_
  generalize a.tmps.getD n.it undef=y at h
  cases h with
  |deep hd=>cases hd
  |p _ _ hk=>rw [ht.ei]
 refine wp_seq (wp_region ?_)
 rw [lI]
 show wpOps P o2 _ [0,1] a w
 refine Lf W8 g1 ?_
 -- L9 LQ two Y7 leave in LQ frame
 have Wr:∀ (x y:Value) (ks:List Nat),cN n.nx ks=true->cN n.tx ks=true->bB E N (fr.oY ks) ((a.put (some n.nx) x).put (some n.tx) y):=fun x y ks h1 h2=>
  ((hf.oY ks).skip (by rw [Fr.iC,h1];rfl)).skip (by rw [Fr.iC,h2];rfl)
 have uT:∀ (x y:Value),((a.put (some n.nx) x).put (some n.tx) y).eval (.tmp n.tx)=y:=fun x y=>by
  show (((a.put (some n.nx) x).put (some n.tx) y).tmps.getD n.tx undef)=y
  have:n.tx<(a.put (some n.nx) x).tmps.size:=by simp [Act.put,hf.size,n2]
  simp only [Act.put,Array.getD_eq_getD_getElem?] at this ⊢
  rw [Array.getElem?_setIfInBounds_self_of_lt this]
  rfl
 have adY:∀ (x:Value),(a.put (some n.nx) x).eval (.tmp n.nx)=x:=fun x=>by
  show ((a.put (some n.nx) x).tmps.getD n.nx undef)=x
  have:n.nx<a.tmps.size:=by rw [hf.size];exact n1
  simp only [Act.put,Array.getD_eq_getD_getElem?]
  rw [Array.getElem?_setIfInBounds_self_of_lt this]
  rfl
 rcases run_next_at (P:=P) w oN.type r (E.μ mk).bS clock clock seen bU clock VV Y6 ht.bo.1 (Nat.le_refl _) with ⟨h0,eI⟩|⟨e,nQ,w1,QH,eI⟩
 · refine tN (C4 hoN hia eI) ?_
   rw [d1]
   refine Lf ZZ g2 (tN (v:=.bool false) (C5 hoX (adY _) rfl) ?_)
   rw [d2]
   show Code.wp P _ _ _ _
   refine wp_seq (wp_cond_false (uT _ _) (wp_exit ?_))
   have hn:=El (by rw [OF];exact Qf h0)
   rw [Fr.cU] at hn
   have:=leave .normal E _ st w _ seen ht hs he (Wr (.tuple #[.bool false]) (.bool false) [n.nx,n.tx] (dC.2 (by simp)) (dC.2 (by simp))) (by rw [put_defers,put_defers];exact hd) hn
   show Iq N E0 st0 w0 (j9 n.b0 Q (.exit n.b0)) _ w
   have eb:j9 n.b0 Q (.exit n.b0)=Q .normal:=by funext fr st;simp [j9]
   rw [eb]
   exact this
 · obtain ⟨L1,x,L2,j,UA,AA,hej,Xa⟩:=Nj (es:=es) ht.bo ht.sz nQ
   obtain ⟨wn,LK⟩:∃ wn,wn=setBlock w1 r (.mapIter (some (E.μ mk).bS) clock (seen.push e.born) clock):=⟨_,rfl⟩
   rw [<-LK] at eI
   have GJ:w1.heap=w.heap/\w1.os=w.os/\w1.output=w.output/\w1.tape=w.tape:=by rcases QH with rfl|rfl<;>exact ⟨rfl,rfl,rfl,rfl⟩
   have ajL:r<w.heap.size:=(Array.getElem?_eq_some_iff.1 VV).1
   have zR:∀ b,b≠r->wn.heap[b]? =w.heap[b]? :=fun b hb=>by
    rw [LK]
    show (w1.heap.setIfInBounds r _)[b]? =_
    rw [Array.getElem?_setIfInBounds_ne (Ne.symm hb),GJ.1]
   have Jw:wn.heap[r]? =some (.mapIter (some (E.μ mk).bS) clock (seen.push e.born) clock):=by
    rw [LK]
    show (w1.heap.setIfInBounds r _)[r]? =_
    rw [Array.getElem?_setIfInBounds_self_of_lt (by rw [GJ.1];exact ajL)]
   have hIr:∀ j,E.I r j=none:=fun j=>by
    cases hx:E.I r j with
    |none=>rfl
    |some y=>
     have:=hs.j6 r j y hx
     simp [bM,VV] at this
   have GN:cH E st wn:=hs.U2 zR (fun k hk=>(ht.apart k hk).2) hIr
   have YV:Qe mk yM kd es bU clock r E st wn (seen.push e.born):=⟨ht.hm,ht.hi,ht.ei,by rw [zR _ adX];exact Y6,Jw,ht.bo,ht.sz,ht.rel,ht.apart,ht.own⟩
   have uX:wn.heap.size=w.heap.size:=by
    rw [LK]
    show (w1.heap.setIfInBounds r _).size=_
    rw [Array.size_setIfInBounds,GJ.1]
   have yT:Ext E0 st0 w0 E (st.ins mk o) wn:=⟨he.le,by rw [uX];exact he.size,he.fT,he.gT,he.iB,fun b hb hk=>by rw [zR b (by omega)];exact he.same b hb hk,
    by rw [LK];exact GJ.2.1.trans he.os,by rw [LK];exact GJ.2.2.1.trans he.out,by rw [LK];exact GJ.2.2.2.trans he.tape⟩
   refine tN (C4 hoN hia eI) ?_
   rw [d1]
   refine Lf ZZ g2 (tN (v:=.bool true) (C5 hoX (adY _) rfl) ?_)
   rw [d2]
   show Code.wp P _ _ _ _
   refine wp_seq (wp_cond_true (uT _ _) ?_)
   have adZ:∀ {Q':Exit->Act->World->Prop} {a':Act} {w':World},Q' .normal a' w'->sk.wp P Q' a' w':=by
    intro Q' a' w' h
    cases sk<;>simp [yV] at k4
    · exact wp_skip h
    · exact wp_label h
   refine adZ ?_
   show Code.wp P _ _ _ _
   obtain ⟨a2,PV⟩:∃ a2,a2=(a.put (some n.nx) (.tuple #[.bool true,e.key,e.val])).put (some n.tx) (.bool true):=⟨_,rfl⟩
   rw [<-PV]
   have TP:bB E N (fr.oY [n.nx,n.tx,n.en]) a2:=by rw [PV];exact Wr _ _ _ (dC.2 (by simp)) (dC.2 (by simp))
   have Gf:a2.defers=[]:=by rw [PV,put_defers,put_defers];exact hd
   have ajM:a2.eval (.tmp n.it)=.pointer (some ⟨r,0,none⟩):=by
    rw [PV]
    have h0:a.tmps.getD n.it undef=_:=hia
    show (((a.put (some n.nx) _).put (some n.tx) _).tmps.getD n.it undef)=_
    simp only [Act.put,Array.getD_eq_getD_getElem?] at h0 ⊢
    rw [Array.getElem?_setIfInBounds_ne ne2,Array.getElem?_setIfInBounds_ne ne1]
    exact h0
   unfold TM at k5
   split at k5
   case h_2=>cases k5
   rename_i oE lE Y8
   simp only [Bool.and_eq_true,decide_eq_true_eq] at k5
   obtain ⟨⟨⟨⟨g3,d3⟩,n3⟩,p3⟩,ad0⟩:=k5
   split at p3
   case h_2=>cases p3
   rename_i xE hoE
   have e3:=OE p3
   subst e3
   have ajN:o3[0]? =some oE:=by rw [<-Array.getElem?_toList,Y8];rfl
   have ajO:∀ k o,lE[k]? =some o->o3[1+k]? =some o:=fun k o h=>by rw [<-Array.getElem?_toList,Y8,Nat.add_comm];exact h
   have ajP:List.range o3.size=0::List.range' 1 lE.length:=by
    have:o3.size=lE.length+1:=by rw [<-Array.length_toList,Y8];rfl
    rw [this,List.range_eq_range',List.range'_succ]
   have Y9:(Instr.entry (.pointer (some ⟨r,0,none⟩))).run P wn=.ok (.tuple #[e.key,e.val]) wn:=
    run_entry_at wn r (E.μ mk).bS clock seen bU clock e Jw (by rw [zR _ adX];exact Y6) (Array.mem_toList_iff.2 (Array.mem_of_getElem? Xa)) ht.bo.2
   refine wp_block (wp_seq (wp_region ?_))
   rw [ajP]
   refine Lf ajN g3 (tN (Jj hoE ajM Y9) ?_)
   rw [d3]
   obtain ⟨r1,r2,r3⟩:=ht.rel j x e hej Xa
   have hrt:Rel E (.bY [x.1,x.2]) (.tuple #[e.key,e.val]):=by
    refine .bY _ _ rfl fun i v y hv hy=>?_
    match i with
    |0=>simp at hv hy;subst hv;subst hy;exact .deep r1
    |1=>simp at hv hy;subst hv;subst hy;exact r3.mono (E.D2 mk)
    |i+2=>simp at hv
   have hf3:bB E N ((n.en,.bY [x.1,x.2])::fr.oY [n.nx,n.tx,n.en]) (a2.put (some n.en) (.tuple #[e.key,e.val])):=
    bB.next TP (dst:=some n.en) (fun d h=>by cases h;exact n3) hrt []
   have hb:=adW L1 x L2 (OF.trans UA)
   rw [Fr.cU] at hb
   obtain ⟨Qr,hQr⟩:∃ Qr,Qr=Y4 n.b0 n.b1 (fun fr st=>∀ (E:Env) (w:World) (a:Act) (seen:Array Nat),L1++L2=tM es bU seen->Qe mk yM kd es bU clock r E st w seen->cH E st w->Ext E0 st0 w0 E (st.ins mk o) w->bB E N fr a->a.defers=[]->iZ P c (rC N E0 st0 w0 (j9 n.b0 Q)) a w) mk o Q:=⟨_,rfl⟩
   have hb:(mK n.post ((n.en,.bY [x.1,x.2])::fr.oY [n.nx,n.tx,n.en]) st).sv (aC P) (iY (qG (QG (aC P) n.body Qr) Qr)):=by rw [hQr];exact hb
   rw [T.Hg] at hb
   have hb:=qT (aC.mono P) n.post _ st _ (T.zM (aC.mono P) _ _ hb)
   refine ops_ok n.post lE 1 ad0 ajO GN hf3 hb ?_
   intro fr4 st4 E4 a4 w4 h4 s4 x4 f4 df4
   show Code.wp P _ _ _ _
   have h4:QG (aC P) n.body Qr fr4 st4:=h4
   refine wp_mono (code_ok (E0:=E) (st0:=st) (w0:=wn) n.body body k6 Qr s4 x4 f4 (df4.trans (by rw [put_defers];exact Gf)) (uI (aC.mono P) _ _ _ _ _ h4 fun _ _ _ h=>h)) ?_
   intro e' a5 w5 h5
   -- a round more
   have more:∀ Xb TQ E5,(∀ (E:Env) (w:World) (a:Act) (seen:Array Nat),L1++L2=tM es bU seen->Qe mk yM kd es bU clock r E TQ w seen->cH E TQ w->Ext E0 st0 w0 E (TQ.ins mk o) w->bB E N Xb a->a.defers=[]->iZ P c (rC N E0 st0 w0 (j9 n.b0 Q)) a w)->
    cH E5 TQ w5->Ext E st wn E5 TQ w5->bB E5 N Xb a5->a5.defers=[]->iZ P c (rC N E0 st0 w0 (j9 n.b0 Q)) a5 w5:=fun Xb TQ E5 hR s5 x5 f5 d5=>
    hR E5 w5 a5 (seen.push e.born) AA.symm (YV.step x5) s5 (yT.trans (x5.ins o ht.hm)) f5 d5
   cases e' with
   |normal=>
    obtain ⟨Xb,TQ,E5,hq,s5,x5,f5,d5⟩:=h5
    rw [hQr] at hq
    exact more Xb TQ E5 hq s5 x5 f5 d5
   |exit id=>
    obtain ⟨Xb,TQ,E5,hq,s5,x5,f5,d5⟩:=h5
    rw [hQr] at hq
    simp only [Y4] at hq
    simp only [Exit.inBlock]
    split
    · rename_i ED
      rw [if_pos ED] at hq
      exact more Xb TQ E5 hq s5 x5 f5 d5
    · rename_i ED
      rw [if_neg ED] at hq
      show Iq N E0 st0 w0 (j9 n.b0 Q (.exit id)) a5 w5
      split at hq
      · rename_i Za
        have eb:j9 n.b0 Q (.exit id)=Q .normal:=by funext fr st;simp [j9,Za]
        rw [eb]
        exact leave _ _ _ _ _ _ _ (YV.step x5) s5 (yT.trans (x5.ins o ht.hm)) f5 d5 hq
      · rename_i Za
        have eb:j9 n.b0 Q (.exit id)=Q (.exit id):=by funext fr st;simp [j9,Za]
        rw [eb]
        exact leave _ _ _ _ _ _ _ (YV.step x5) s5 (yT.trans (x5.ins o ht.hm)) f5 d5 hq
   |ret=>
    obtain ⟨Xb,TQ,E5,hq,s5,x5,f5,d5⟩:=h5
    rw [hQr] at hq
    exact leave .ret _ _ _ _ _ _ (YV.step x5) s5 (yT.trans (x5.ins o ht.hm)) f5 d5 hq
   |goto l=>exact h5.elim
   |panic ch=>exact h5.elim
   |outgrown=>exact h5.elim
theorem rng_ok {c:Code} {n:C1} (hk:TN P N c n=true) (Q:Ex->Fr->St->Prop) {fr:Fr} {st:St} {E:Env} {w:World} {a:Act} (hs:cH E st w) (he:Ext E0 st0 w0 E st w) (hf:bB E N fr a) (hd:a.defers=[])
 (hw:spN (aC P) n Q fr st):c.wp P (rC N E0 st0 w0 Q) a w:=by
 unfold TN at hk
 split at hk
 case h_2=>cases hk
 rename_i id1 o1 d1 i0 id2 o2 d2 cx sk i0' i1 id3 o3 d3 body
 simp only [Bool.and_eq_true,decide_eq_true_eq,Bool.not_eq_true'] at hk
 obtain ⟨⟨⟨⟨⟨⟨⟨⟨⟨⟨⟨rfl,rfl⟩,rfl⟩,rfl⟩,rfl⟩,rfl⟩,k1⟩,k2⟩,k3⟩,k4⟩,k5⟩,k6⟩:=hk
 obtain ⟨l',oR,tR,xR,kt,et,hl,ajQ,hgR,hdR,ajR,hoR,hxR,hu⟩:=C2 k1
 refine wp_seq (wp_region ?_)
 have Zb:List.range o1.size=List.range' 0 l'.length++[l'.length]:=by
  have:o1.size=l'.length+1:=by rw [<-Array.length_toList,hl];simp
  rw [this,List.range_eq_range',List.range'_concat];simp
 rw [Zb]
 have fU:∀ j o,l'[j]? =some o->o1[0+j]? =some o:=fun j o h=>by
  have hj:j<l'.length:=(List.getElem?_eq_some_iff.1 h).1
  rw [Nat.zero_add,<-Array.getElem?_toList,hl,List.getElem?_append_left hj];exact h
 have TG:o1[l'.length]? =some oR:=by rw [<-Array.getElem?_toList,hl];simp
 unfold spN at hw
 rw [T.Hg] at hw
 have hw:=qT (aC.mono P) n.pre fr st _ (T.zM (aC.mono P) _ _ hw)
 refine Ep [l'.length] n.pre l' 0 ajQ fU hs hf hw ?_
 clear hw hs hf
 intro BF st1 E1 a1 w1 hw hs Ux hf F6
 have F6:a1.defers=[]:=F6.trans hd
 have Ux:=he.trans Ux
 dsimp only at hw
 split at hw
 case h_2=>exact hw.elim
 rename_i mk YD
 obtain ⟨o,H8,hw⟩:=hw.h
 split at hw
 case h_2=>exact hw.elim
 rename_i kd es
 refine Lf TG hgR ?_
 have ZK:=bG hxR hf
 rw [YD] at ZK
 obtain ⟨bmE,hEm,Y6⟩:∃ b,(E1.μ mk).bS=b/\a1.eval xR=.map (some b):=by
  generalize hv:a1.eval xR=v at ZK
  cases ZK with
  |deep hd=>cases hd
  |m _ hk=>exact ⟨_,rfl,rfl⟩
 have eQ:st1.live mk:=⟨_,H8⟩
 have ad1:=hs.j7 mk eQ
 obtain ⟨bU,clock,Jr,F5,hb3,hb4⟩:=hs.obj mk _ H8
 rw [hEm] at Jr
 refine tN (Ji hoR hu Y6 Jr) ?_
 rw [hdR]
 -- LQ world with LQ iterator
 obtain ⟨w2,M4⟩:∃ w2,w2=w1.alloc (.mapIter (some bmE) clock #[] clock):=⟨_,rfl⟩
 have Qw:w2.heap=w1.heap.push (.mapIter (some bmE) clock #[] clock):=by rw [M4];rfl
 rw [<-M4]
 obtain ⟨r,hr⟩:∃ r,r=w1.heap.size:=⟨_,rfl⟩
 rw [<-hr]
 have Nf:=hs.aside Qw
 have he2:=Ux.aside hs Qw (by rw [M4];rfl) (by rw [M4];rfl) (by rw [M4];rfl)
 have vD:=E1.BA w1.heap.size
 rw [<-hr] at Nf he2 vD
 obtain ⟨yM,ad2⟩:∃ yM,yM=Key.l st1.l.next:=⟨_,rfl⟩
 have QT:yM=E1.aO false:=by rw [ad2,hs.nl];rfl
 have ad3:(E1.aside r).has yM:=by rw [QT];exact Env.fG _ _ _ _
 have ad4:(E1.aside r).μ yM=⟨r,0,0⟩:=by rw [QT];exact Env.gE _ _ _ _
 have hold:∀ b,b<r->w2.heap[b]? =w1.heap[b]? :=fun b hb=>by rw [Qw,Array.getElem?_push,if_neg (by omega)]
 have ajT:bmE<r:=by rw [hr];exact (Array.getElem?_eq_some_iff.1 Jr).1
 have hmu:(E1.aside r).μ mk=E1.μ mk:=Env.tK ad1
 have hlb:∀ k,((st1.remove mk).bump).live k->k≠mk/\st1.live k:=by
  intro k hk
  obtain ⟨x,hx⟩:=St.nN.1 hk
  rw [St.jN] at hx
  split at hx
  · cases hx
  · exact ⟨‹_›,x,hx⟩
 have ajU:(st1.remove mk).bump=st1.bump.remove mk:=by cases mk<;>rfl
 have trk:Qe mk yM kd es bU clock r (E1.aside r) (st1.remove mk).bump w2 #[]:=by
  refine ⟨vD.has ad1,ad3,ad4,?_,?_,hb4,F5,fun j q e h1 h2=>?_,fun k hk=>?_,fun j h1 h2=>?_⟩
  · rw [hmu,hEm,hold _ ajT];exact Jr
  · rw [hmu,hEm,Qw,hr];simp
  · obtain ⟨x,y,z⟩:=hb3 j q e h1 h2
    have x:fF E1.I q.1 e.key:=by cases mk<;>exact x
    exact ⟨x.mono vD.j6,y,z.mono (Env.jC vD mk)⟩
  · obtain ⟨h1,h2⟩:=hlb k hk
    rw [Env.tK (hs.j7 k h2),hmu]
    exact ⟨hs.sep k mk h2 eQ h1,by have:=hs.lt h2;omega⟩
  · rw [hmu] at h1 h2 ⊢
    rw [Env.DR]
    exact hs.own mk eQ j h1 h2
 have hsR:cH (E1.aside r) (st1.remove mk).bump w2:=by rw [ajU];exact Nf.less mk
 have heR:Ext E0 st0 w0 (E1.aside r) ((st1.remove mk).bump.ins mk (.mp kd es)) w2:=by
  refine he2.TL ⟨by cases mk<;>rfl,by cases mk<;>rfl,fun k=>?_⟩
  rw [St.By,St.Bz,St.Bz,St.jN]
  split
  · rename_i h;subst h;exact H8.symm
  · rfl
 have TP:bB (E1.aside r) N ((n.it,.p yM 0)::BF) (a1.put (some n.it) (.pointer (some ⟨r,0,none⟩))):=by
  have hp:Rel (E1.aside r) (.p yM 0) (.pointer (some ⟨r,0,none⟩)):=by
   have:=Rel.p (E:=E1.aside r) yM 0 ad3
   rw [ad4] at this
   simpa using this
  exact bB.next (hf.mono vD) (dst:=some n.it) (fun d h=>by cases h;exact ajR) hp []
 have GL:w0.heap.size<=r:=by rw [hr];exact Ux.size
 rw [<-ad2] at hw
 show Code.wp P _ _ _ _
 refine wp_block ?_
 have UD:∀ e a' w',rC N E0 st0 w0 (j9 n.b0 Q) e a' w'->Exit.inBlock n.b0 (rC N E0 st0 w0 Q) e a' w':=by
  intro e a' w' h
  cases e with
  |normal=>exact h
  |exit id=>
   obtain ⟨cF,cB,E',h1,h2⟩:=h
   simp only [j9] at h1
   simp only [Exit.inBlock]
   split
   · rename_i ED;rw [if_pos ED] at h1;exact ⟨cF,cB,E',h1,h2⟩
   · rename_i ED;rw [if_neg ED] at h1;exact ⟨cF,cB,E',h1,h2⟩
  |ret=>exact h
  |goto l=>exact h
  |panic ch=>exact h
  |outgrown=>exact h
 refine wp_mono ?_ UD
 obtain ⟨o,ho⟩:∃ o,o=Obj.mp kd es:=⟨_,rfl⟩
 rw [<-ho] at hw heR
 have key:=hw.h (fun left fr st=>∀ (E:Env) (w:World) (a:Act) (seen:Array Nat),left=tM es bU seen->Qe mk yM kd es bU clock r E st w seen->cH E st w->Ext E0 st0 w0 E (st.ins mk o) w->bB E N fr a->a.defers=[]->
  iZ P (Code.seq (.region id2 o2 false) (.seq (.cond cx sk (.exit n.b0)) (.block n.b1 (.seq (.region id3 o3 false) body)))) (rC N E0 st0 w0 (j9 n.b0 Q)) a w)
  fun left sZ fr st hle hx E w a seen OF ht hs he hf hd=>iZ.next (round_ok k2 k3 k4 k5 k6 Q GL ho OF ht hs he (hf.le hle) hd hx)
 exact (key (E1.aside r) w2 _ #[] (Qg F5).symm trk hsR heR TP (by rw [put_defers];exact F6)).loop
theorem rc_ok:∀ (A:RC) (c:Code),okR P N c A=true->∀ (Q:Ex->Fr->St->Prop) {fr:Fr} {st:St} {E:Env} {w:World} {a:Act},
 cH E st w->Ext E0 st0 w0 E st w->bB E N fr a->a.defers=[]->spR (aC P) A Q fr st->c.wp P (rC N E0 st0 w0 Q) a w
 |.ac A,c,hk,Q,fr,st,E,w,a,hs,he,hf,hd,hw=>code_ok A c (by cases c<;>exact hk) Q hs he hf hd (uI (aC.mono P) _ _ _ _ _ hw fun _ _ _ h=>h)
 |.rng n,c,hk,Q,fr,st,E,w,a,hs,he,hf,hd,hw=>rng_ok (by cases c<;>exact hk) Q hs he hf hd hw
 |.seq A B,c,hk,Q,fr,st,E,w,a,hs,he,hf,hd,hw=>by
  cases c<;>simp [okR] at hk
  rename_i x y
  refine wp_seq ?_
  refine wp_mono (rc_ok A x hk.1 _ hs he hf hd hw) ?_
  intro e a' w' h
  cases e with
  |normal=>
   obtain ⟨cF,cB,E',h1,h2,h3,h4,h5⟩:=h
   exact rc_ok B y hk.2 Q h2 h3 h4 h5 h1
  |exit id=>exact h
  |ret=>exact h
  |goto l=>exact h
  |panic ch=>exact h
  |outgrown=>exact h
theorem Xc {f:Nat} {F:RFn} (hk:C3 P f F=true) {args:List V} (hn:args.length=F.nparams) {h:aA} {K:V->aA->Prop}
 (hw:(b9 0 args).fS fun fr=>spR (aC P) F.body (wC F.results K) fr (dP h)):aC P f args h K:=by
 rw [Fr.qK] at hw
 unfold C3 at hk
 split at hk
 case h_2=>cases hk
 rename_i fn F7
 split at hk
 case h_2=>cases hk
 rename_i c hb
 simp only [Bool.and_eq_true,decide_eq_true_eq] at hk
 obtain ⟨⟨⟨k1,k2⟩,k3⟩,k4⟩:=hk
 exact Wu F7 hb k1 k3 k4 hn fun E w a hs Gn hd=>rc_ok (E0:=E) (st0:=dP h) (w0:=w) F.body c k2 _ hs (.refl _ _ _) Gn hd hw
end
end Go.Eng
namespace Go.Eng.AF
open Go Go.Eng
def Cw:RFn:=⟨2,.seq (.ac (rR [oO 3 (.box false 1) [1],
 oA 4 kF [4]])) (.seq (.ac (rS [oF 7 2 3,
 oL 8 7,
 oO 9 (.un .not 8) [8]] (.cond 9 (.seq (.u0 [dq 0 (oP 10 0),
 dq 1 (oO 11 (.DX 10) []),
 dq 2 (oF 12 1 11),
 dq 3 (oK 13 12),
 dq 4 (oF 14 0 3),
 dq 5 (oK 15 14),
 dq 6 (oO 16 (.Up none (.agg [vS,(vI 0),.aS]) 13 15 false) []),
 dq 7 (oO 17 (.Qu 1 none 16) []),
 dq 8 (oF 18 1 3),
 dq 9 (oK 19 18),
 dq 10 (oO 20 (.bin .eql 17 19) []),
 dq 11 (oA 4 20 [])] [0,10,11,12,13,3,14,15,16,17,18,19,20])
.ret)
 .skip))) (.seq (.rng ⟨[oQ 21 0,
 oO 22 (.DX 21) [21],
 oE 23 2 22,
 oL 24 23],24,25,26,27,28,0,1,[oO 29 (.ext 28 0) [],
 oO 30 (.ext 28 1) [28],
 oB 5 29,
 oB 6 30],(rS [oQ 31 6,
 oF 32 1 3,
 oL 33 32,
 oO 34 (.bin .gtr 31 33) [31,33],
 oQ 35 34,
 oG 36 (.mv 5) 35 [5],
 oG 37 (.uW 0 3) 35 [],
 oG 38 (.load none 37) 35 [37],
 oG 39 (.call 205 [36,38]) 35 [36,38],
 oO 40 (.pick 35 39 kF) [35,39]] (.cond 40 (rS [oA 4 kF []] .ret)
 .skip))⟩) (.ac (rS [oA 4 kT []] .ret)))),[.t 4]⟩
end Go.Eng.AF
namespace Go.Eng
open Go
section
variable {P:Program} {E:Env} {st:St} {w w':World}
theorem cH.TR (hs:cH E st w) {k:Key} {sz:Nat} {es:List (List V)} (eO:st.get k=some (.arr sz es)):
 ∃ cells t fz xs,w.heap[(E.μ k).bS]? =some (.cells cells t fz)/\tU sz fz cells.size/\(E.μ k).base+es.length*sz<=(E.μ k).fin/\(E.μ k).fin<=cells.size/\(∀ e∈es,e.length=sz)/\
  xs.length=es.length*sz/\(∀ j v,xs[j]? =some v->cells[(E.μ k).base+j]? =some v)/\jD (E.at k) es.flatten xs/\∀ x∈xs,x.oneCell'=true:=by
 obtain ⟨hl,cells,t,fz,r1,r2,r3,r4,r5⟩:=hs.obj k _ eO
 have hf:=dA hl
 have hca:gN (E.at k) w (E.μ k).bS (E.μ k).base es.flatten:=fun j v hj=>by
  obtain ⟨x,hx,a,b⟩:=r5 j v hj
  exact ⟨x,by simp [bM,r1,hx],a,b⟩
 obtain ⟨xs,x1,x2,x3,x4⟩:=hca.list
 refine ⟨cells,t,fz,xs,r1,r2,by omega,r4,hl,by omega,fun j v hj=>?_,fun j v hj=>?_,x4⟩
 · have:=x2 j v hj
   rw [lY] at this
   simpa [bM,r1] using this
 · obtain ⟨x,hx,hr⟩:=x3.get hj
   have Uq:xs[j]? =some x:=by simpa using hx
   exact ⟨x,Uq,hr,x4 x (List.mem_of_getElem? Uq)⟩
end
end Go.Eng
namespace Go.Proofs.YtmfelikepmmjkaaGreat
open Go Go.Eng Go.Eng.AF
theorem TS:C3 Tryz.prog 104 Cw=true:=by kernel_rfl
end Go.Proofs.YtmfelikepmmjkaaGreat
