/-
A whole state stays whole when some go and one is bound where it may be.
-/
import Derived.Test.YtmfelikepmmjkaaGreatX39
import Derived.Test.YtmfelikepmmjkaaGreatX35
import Derived.Test.YtmfelikepmmjkaaGreatX29
import Derived.Test.YtmfelikepmmjkaaGreatX38
import Derived.Test.YtmfelikepmmjkaaGreatX36
import Derived.Test.YtmfelikepmmjkaaGreatX32
set_option linter.unusedVariables false
set_option linter.unusedSimpArgs false
set_option maxHeartbeats 8000000
set_option maxRecDepth 100000
namespace Go.Eng
open Go
theorem T6 {l q:List aL} (h:l.Sublist q) (hm:pO q):(fZ l).a<=(fZ q).a/\(fZ l).b<=(fZ q).b/\(fZ l).c<=(fZ q).c:=by
 induction h with
 |slnil=>exact ⟨Int.le_refl _,Int.le_refl _,Int.le_refl _⟩
 |cons a _ ih=>
  have h1:=ih fun x hx=>hm x (.tail _ hx)
  have h2:=hm a (.head _)
  have:=h2.a;have:=h2.b;have:=h2.c
  rw [show ∀ l,fZ (a::l)=⟨a.fQ.a+(fZ l).a,a.fQ.b+(fZ l).b,a.fQ.c+(fZ l).c⟩ from fun _=>rfl]
  exact ⟨by dsimp only;omega,by dsimp only;omega,by dsimp only;omega⟩
 |cons_cons a _ ih=>
  have h1:=ih fun x hx=>hm x (.tail _ hx)
  refine ⟨?_,?_,?_⟩<;>(simp only [fZ];omega)
theorem Qp {N:List bK} {l q:List aL} (h:l.Sublist q) (hm:pO q) (hl:q.length<=1000) (hw:pF ⟨N,q⟩=true):pF ⟨N,l⟩=true:=by
 have BH:pO l:=fun x hx=>hm x (h.subset hx)
 have L8:l.length<=1000:=Nat.le_trans h.length_le hl
 unfold pF at hw ⊢
 rw [Bool.and_eq_true,List.all_eq_true,List.all_eq_true] at hw ⊢
 refine ⟨fun n hn=>?_,fun x hx=>hw.2 x (h.subset hx)⟩
 have h1:=hw.1 n hn
 try dsimp only at h1 ⊢
 rw [xL hm hl] at h1
 rw [xL BH L8]
 try dsimp only at h1 ⊢
 rw [Bool.and_eq_true] at h1 ⊢
 have hs:(oJ ⟨N,l⟩ n.name).Sublist (oJ ⟨N,q⟩ n.name):=List.Sublist.filter _ h
 refine ⟨?_,?_⟩
 · have h2:=T6 hs (pO.filter hm _)
   have h3:=h1.1
   unfold CP at h3 ⊢
   simp only [Bool.and_eq_true,decide_eq_true_eq] at h3 ⊢
   exact ⟨by omega,by omega,by omega⟩
 · rw [C0] at*
   exact h1.2.sublist hs
structure Ll (s:dY) (vs:List aU) (q:aL) (w:dY):Prop where
 nodes:w.nodes=s.nodes
 jK:lV w.aE
 mem:∀ x,x∈w.aE↔x=q\/(x∈s.aE/\x.name≠q.name/\x.name∉vs)
theorem Lm {s w:dY} {vs:List aU} {p:aL} {x:aU} (hb:Ll s vs (fC p x) w) (hs:lV s.aE) (hn:s.nodes.Pairwise fun a b=>bR a.name b.name) (hm:pO s.aE) (hl:s.aE.length<=900) (hp:p∈s.aE) (hx:x≠[])
 (hf:gR (aW s vs) p x=true) (hw:pF s=true):pF w=true:=by
 have Oc:=PU hf
 obtain ⟨l0,u9⟩:∃ l0,l0=s.aE.filter fun q=>!(q.name==p.name)&&!(vs.any fun v=>q.name==v):=⟨_,rfl⟩
 have Lg:l0.Sublist s.aE:=by rw [u9];exact List.filter_sublist
 have Ly:∀ q∈l0,q.name≠(fC p x).name:=fun q hq=>by
  rw [u9] at hq
  have:=(List.mem_filter.1 hq).2
  simp only [Bool.and_eq_true,Bool.not_eq_true'] at this
  show q.name≠p.name
  simpa using this.1
 obtain ⟨A,B,ZY,_,hA,hB⟩:=Jf (p:=fC p x) (hs.sublist Lg) Ly
 have eN:∀ y,y≠[]->oJ ⟨s.nodes,l0⟩ y=oJ (aW s vs) y:=fun y hy=>by
  unfold oJ aW
  rw [u9]
  dsimp only
  rw [List.filter_filter,List.filter_filter]
  refine List.filter_congr fun q hq=>?_
  by_cases hq2:q.name=p.name
  · have:q=p:=by
     by_cases he:q=p
     · exact he
     · exfalso
       have dJ:∀ {L:List aL},lV L->q∈L->p∈L->q.name≠p.name:=by
        intro L hL
        induction hL with
        |nil=>intro h;cases h
        |cons h _ ih=>
         intro a b
         cases a with
         |head=>cases b with
          |head=>exact absurd rfl he
          |tail _ b=>exact iP (h _ b)
         |tail _ a=>cases b with
          |head=>exact fun e=>iP (h _ a) e.symm
          |tail _ b=>exact ih a b
       exact dJ hs hq hp hq2
    subst this
    rw [Oc]
    have:(([]:aU)==y)=false:=by cases y with
     |nil=>exact absurd rfl hy
     |cons a b=>rfl
    rw [this];simp
  · have:(q.name==p.name)=false:=by simpa using hq2
    rw [this];simp
 have jE:=hf
 unfold gR at jE
 cases Az:(aW s vs).nodes.find? (fun n=>n.name==x) with
 |none=>rw [Az] at jE;cases jE
 |some n0=>
  rw [Az] at jE
  simp only [KC,Bool.and_eq_true] at jE
  have Wm:n0.name=x:=by simpa using List.find?_some Az
  have hr:A9 ⟨s.nodes,l0⟩ p n0=true:=by
   have:=jE.2.1
   unfold A9 rO at this ⊢
   rw [eN _ (by rw [Wm];exact hx)]
   exact this
  have RK:uF ⟨s.nodes,l0⟩ p n0=true:=by
   have:=jE.2.2.1
   unfold uF at this ⊢
   rw [Bool.not_eq_true',List.any_eq_false] at this ⊢
   intro q hq
   refine this q ?_
   rw [u9] at hq
   obtain ⟨a,b⟩:=List.mem_filter.1 hq
   simp only [Bool.and_eq_true] at b
   exact List.mem_filter.2 ⟨a,b.2⟩
  have hwh:=Qp Lg hm (by omega) hw
  have BH:pO l0:=fun q hq=>hm q (Lg.subset hq)
  have hlen:=Lg.length_le
  have P9:=hs.sublist Lg
  have Gm:∀ q,q∈w.aE↔q∈A++fC p x::B:=fun q=>by
   rw [hb.mem q,List.mem_append,List.mem_cons]
   have h1:q∈l0↔q∈A\/q∈B:=by rw [ZY,List.mem_append]
   have h2:q∈l0↔(q∈s.aE/\q.name≠(fC p x).name/\q.name∉vs):=by
    rw [u9,List.mem_filter]
    simp only [fC,Bool.and_eq_true,Bool.not_eq_true',beq_eq_false_iff_ne,List.any_eq_false,beq_iff_eq]
    exact ⟨fun ⟨a,b,c⟩=>⟨a,b,fun hv=>c _ hv rfl⟩,fun ⟨a,b,c⟩=>⟨a,b,fun v hv e=>c (e▸hv)⟩⟩
   constructor
   · rintro (h|h)
     · exact .inr (.inl h)
     · rcases h1.1 (h2.2 h) with h|h
       · exact .inl h
       · exact .inr (.inr h)
   · rintro (h|h|h)
     · exact .inr (h2.1 (h1.2 (.inl h)))
     · exact .inl h
     · exact .inr (h2.1 (h1.2 (.inr h)))
  rw [ZY] at hwh BH hlen P9 hr RK
  have hk:=Lk (hn.imp fun {a b} h=>iP h) (by simpa using hx) BH (hm p hp) (by omega) hwh Az hr RK
  have M4:w=⟨s.nodes,A++fC p x::B⟩:=by
   obtain ⟨wn,wp⟩:=w
   have:=hb.nodes
   dsimp only at this
   rw [this,show wp=A++fC p x::B from TI hb.jK (FL P9 hA hB) Gm]
  rw [M4]
  exact hk
open Go
def xM (f:aU->Int) (lv:List Int) (s:dY):List dG:=⟨oT,f oT,lv⟩::(s.nodes.map (fun n=>⟨dK n.name,f (dK n.name),dO n⟩)++s.aE.map fun p=>⟨bO p.name,f (bO p.name),bZ p⟩)
def NL (f:aU->Int) (lv:List Int) (s:dY):List (It×Int):=(.l lv,f oT)::(s.nodes.map (fun n=>(.n n,f (dK n.name)))++s.aE.map fun p=>(.p p,f (bO p.name)))
theorem OJ (f:aU->Int) (lv:List Int) (s:dY):(NL f lv s).map Dm=xM f lv s:=by
 unfold NL xM
 simp [List.map_append,Dm,Function.comp_def]
theorem Xe (f:bK->Int):∀ l:List bK,sQ (l.map fun n=>(It.n n,f n))=l
 |[]=>rfl
 |_::r=>by rw [List.map_cons,sQ,Xe f r]
theorem Xf (f:aL->Int):∀ l:List aL,sQ (l.map fun n=>(It.p n,f n))=[]
 |[]=>rfl
 |_::r=>by rw [List.map_cons,sQ,Xf f r];simp
theorem Xg (f:aL->Int):∀ l:List aL,sR (l.map fun n=>(It.p n,f n))=l
 |[]=>rfl
 |_::r=>by rw [List.map_cons,sR,Xg f r]
theorem Xh (f:bK->Int):∀ l:List bK,sR (l.map fun n=>(It.n n,f n))=[]
 |[]=>rfl
 |_::r=>by rw [List.map_cons,sR,Xh f r];simp
theorem T7 (f:aU->Int) (lv:List Int) (s:dY):sQ (NL f lv s)=s.nodes:=by
 unfold NL
 rw [sQ,BB,Xe (fun n=>f (dK n.name)),Xf (fun p=>f (bO p.name)),List.append_nil]
 simp
theorem T8 (f:aU->Int) (lv:List Int) (s:dY):sR (NL f lv s)=s.aE:=by
 unfold NL
 rw [sR,BC,Xh (fun n=>f (dK n.name)),Xg (fun p=>f (bO p.name)),List.nil_append]
 simp
theorem yN {c:UInt8} {a b:aU} (h:bR a b):bR (c::a) (c::b):=by
 unfold bR at*
 unfold Op.bytesLess
 rw [h];simp
theorem Zk (s:aU):bR oT (dK s):=rfl
theorem Zl (s:aU):bR oT (bO s):=rfl
theorem Zm (s t:aU):bR (dK s) (bO t):=rfl
theorem rB {f:aU->Int} {lv:List Int} {s:dY} (hn:s.nodes.Pairwise fun a b=>bR a.name b.name) (hp:lV s.aE):sL (xM f lv s):=by
 unfold xM sL
 refine List.pairwise_cons.2 ⟨fun e he=>?_,List.pairwise_append.2 ⟨?_,?_,fun a ha b hb=>?_⟩⟩
 · rcases List.mem_append.1 he with he|he
   · obtain ⟨n,_,rfl⟩:=List.mem_map.1 he;exact Zk _
   · obtain ⟨n,_,rfl⟩:=List.mem_map.1 he;exact Zl _
 · exact List.Pairwise.map _ (fun a b h=>yN (yN h)) hn
 · exact List.Pairwise.map _ (fun a b h=>yN (yN h)) hp
 · obtain ⟨n,_,rfl⟩:=List.mem_map.1 ha
   obtain ⟨q,_,rfl⟩:=List.mem_map.1 hb
   exact Zm _ _
theorem yO {f:aU->Int} {lv:List Int} {s:dY} {e:dG}:e∈xM f lv s↔e=⟨oT,f oT,lv⟩\/(∃ n∈s.nodes,e=⟨dK n.name,f (dK n.name),dO n⟩)\/∃ p∈s.aE,e=⟨bO p.name,f (bO p.name),bZ p⟩:=by
 unfold xM
 rw [List.mem_cons,List.mem_append,List.mem_map,List.mem_map]
 exact ⟨fun h=>h.imp id fun h=>h.imp (fun ⟨n,a,b⟩=>⟨n,a,b.symm⟩) fun ⟨n,a,b⟩=>⟨n,a,b.symm⟩,fun h=>h.imp id fun h=>h.imp (fun ⟨n,a,b⟩=>⟨n,a,b.symm⟩) fun ⟨n,a,b⟩=>⟨n,a,b.symm⟩⟩
theorem FR {L:List dG} (h:sL L) {k:aU} {e:dG}:eA L k=some e↔e∈L/\e.key=k:=by
 refine ⟨fun he=>⟨?_,K3 he⟩,fun ⟨h1,h2⟩=>by rw [<-h2];exact h.get e h1⟩
 clear h
 induction L with
 |nil=>cases he
 |cons x r ih=>
  unfold eA at he
  split at he
  · cases he;exact .head _
  · exact .tail _ (ih he)
def QM:Int->List dG->List dG
 |_,[]=>[]
 |k,e::r=>⟨e.key,k,e.val⟩::QM (k+1) r
theorem Ln:∀ {E:List dG} {k:Int} {i:Nat} {e:dG},E[i]? =some e->QM k (E.take (i+1))=QM k (E.take i)++[⟨e.key,k+i,e.val⟩]
 |x::r,k,0,e,h=>by
  simp at h;subst h
  simp [QM]
 |x::r,k,i+1,e,h=>by
  rw [List.take_succ_cons,List.take_succ_cons,QM,QM,Ln (E:=r) (k:=k+1) (i:=i) (by simpa using h),List.cons_append]
  rw [show k+1+(i:Int)=k+((i+1:Nat):Int) by push_cast;omega]
theorem Jl:∀ {E:List dG} {k:Int} {e:dG},e∈QM k E->(∃ x∈E,e.key=x.key/\e.val=x.val)/\k<=e.rev/\e.rev<k+E.length
 |x::r,k,e,h=>by
  rw [QM] at h
  cases h with
  |head=>exact ⟨⟨x,.head _,rfl,rfl⟩,Int.le_refl _,by simp only [List.length_cons];push_cast;omega⟩
  |tail _ h=>
   obtain ⟨⟨y,a,b⟩,c,d⟩:=Jl h
   exact ⟨⟨y,.tail _ a,b⟩,by omega,by simp only [List.length_cons];push_cast;omega⟩
def Lo (lv:List Int) (E:List dG):List dG:=⟨oT,1,lv⟩::QM 2 E
theorem Qq {L:List dG} {e:dG} (h:sL L) (hl:∀ x∈L,bR x.key e.key):Bq e false L=L++[e]:=by
 rw [xC e h,List.filter_eq_self.2 (fun x hx=>hl x hx),List.filter_eq_nil_iff.2 fun x hx=>?_]
 intro h2
 have:=qS (hl x hx)
 rw [h2] at this;cases this
def Zn (E:List dG):Prop:=(E.Pairwise fun a b=>bR a.key b.key)/\∀ e∈E,bR oT e.key
theorem VZ {D:List dG} {lv:List Int} {E:List dG} {i:Nat} {e:dG} (h:gB D (Lo lv (E.take i))) (hE:Zn E) (he:E[i]? =some e):gB (sK D ⟨e.key,2+i,e.val⟩) (Lo lv (E.take (i+1))):=by
 have h1:=h.put ⟨e.key,2+i,e.val⟩
 rw [Qq h.jK fun x hx=>?_] at h1
 · unfold Lo at h1 ⊢
   rw [Ln he]
   exact h1
 · unfold Lo at hx
   cases hx with
   |head=>exact hE.2 e (List.mem_of_getElem? he)
   |tail _ hx=>
    obtain ⟨⟨y,a,b,_⟩,_⟩:=Jl hx
    rw [b]
    obtain ⟨j,hj,rfl⟩:=List.mem_iff_getElem.1 a
    rw [List.length_take] at hj
    refine lF (R:=fun a b:dG=>bR a.key b.key) (y:=e) hE.1 (i:=j) (j:=i) (by omega) ?_ he
    rw [List.getElem_take,List.getElem?_eq_getElem]
theorem FU:∀ (E:List dG) (k:Int),(QM k E).map (fun e=>(e.key,e.val))=E.map fun e=>(e.key,e.val)
 |[],_=>rfl
 |_::r,k=>by rw [QM,List.map_cons,List.map_cons,FU r]
theorem DU:∀ (l:List bK) (k:Nat),(vF k l).map (fun e=>(e.key,e.val))=l.map fun n=>(dK n.name,dO n)
 |[],_=>rfl
 |_::r,k=>by rw [vF,List.map_cons,List.map_cons,DU r]
theorem DV:∀ (l:List aL) (k:Nat),(uR k l).map (fun e=>(e.key,e.val))=l.map fun n=>(bO n.name,bZ n)
 |[],_=>rfl
 |_::r,k=>by rw [uR,List.map_cons,List.map_cons,DV r]
theorem Zo {lv:List Int} {s:dY} (h:sL (Lo lv (sM s))):∃ f:aU->Int,Lo lv (sM s)=xM f lv s/\f oT=1/\∀ k,1<=f k/\f k<=1+(sM s).length:=by
 obtain ⟨f,hf⟩:∃ f:aU->Int,f=fun k=>((eA (Lo lv (sM s)) k).map fun e=>e.rev).getD 1:=⟨_,rfl⟩
 have jE:∀ e∈Lo lv (sM s),f e.key=e.rev:=fun e he=>by rw [hf];dsimp only;rw [h.get e he];rfl
 refine ⟨f,?_,jE _ (.head _),fun k=>?_⟩
 · have h1:(Lo lv (sM s)).map (fun e=>(⟨e.key,f e.key,e.val⟩:dG))=Lo lv (sM s):=by
    conv=>rhs;rw [<-List.map_id (Lo lv (sM s))]
    exact List.map_congr_left fun e he=>by rw [jE e he];rfl
   rw [<-h1]
   have h2:∀ L:List dG,L.map (fun e=>(⟨e.key,f e.key,e.val⟩:dG))=(L.map fun e=>(e.key,e.val)).map fun x=>⟨x.1,f x.1,x.2⟩:=fun L=>by rw [List.map_map];rfl
   rw [h2]
   unfold Lo sM xM
   rw [List.map_cons,FU,List.map_append,DU,DV,List.map_cons,List.map_append,List.map_map,List.map_map]
   rfl
 · rw [hf]
   dsimp only
   cases hg:eA (Lo lv (sM s)) k with
   |none=>exact ⟨Int.le_refl _,by show (1:Int)<=_;omega⟩
   |some e=>
    have hm:=((FR h).1 hg).1
    unfold Lo at hm
    cases hm with
    |head=>exact ⟨Int.le_refl _,by show (1:Int)<=_;omega⟩
    |tail _ hm=>
     have:=(Jl hm).2
     show 1<=e.rev/\e.rev<=_
     omega
theorem Zp {s:dY} (hn:s.nodes.Pairwise fun a b=>bR a.name b.name) (hp:lV s.aE):Zn (sM s):=by
 have h1:=rB (f:=fun _=>0) (lv:=[]) hn hp
 unfold sL at h1
 have h2:((xM (fun _=>0) [] s).map (·.key)).Pairwise bR:=List.Pairwise.map _ (fun a b h=>h) h1
 have h3:(xM (fun _=>0) [] s).map (·.key)=oT::(sM s).map (·.key):=by
  have e1:∀ L:List dG,L.map (·.key)=(L.map fun e=>(e.key,e.val)).map Prod.fst:=fun L=>by rw [List.map_map];rfl
  rw [e1 (sM s)]
  unfold sM xM
  rw [List.map_append,DU,DV,List.map_append,List.map_map,List.map_map,List.map_cons,List.map_append,List.map_map,List.map_map]
  rfl
 rw [h3,List.pairwise_cons] at h2
 exact ⟨List.pairwise_map.1 h2.2,fun e he=>h2.1 _ (List.mem_map.2 ⟨e,he,rfl⟩)⟩
open Go
theorem BD:∀ l:List aU,(l.flatMap bV).length=8*l.length
 |[]=>rfl
 |x::r=>by rw [List.flatMap_cons,List.length_append,bN,BD r,List.length_cons];omega
theorem T9 {t:cM} (h:mO t=true):(dX t).length<=58:=by
 unfold mO at h
 simp only [Bool.and_eq_true] at h
 have h1:=h.1.1
 have hv:t.bF.length<=6:=by split at h1<;>simp only [Bool.and_eq_true,decide_eq_true_eq] at h1<;>omega
 unfold dX yH
 simp only [List.length_append,aV,bN,BD]
 omega
theorem Cy {l:List cM} (h:fY l=true):(fB l).length<=349:=by
 unfold fY at h
 simp only [Bool.and_eq_true,decide_eq_true_eq,List.all_eq_true] at h
 have:=eV dX 58 l fun t ht=>T9 (h.2 t ht)
 unfold fB
 rw [List.length_append,aV]
 omega
theorem Cz {l:List cX} (h:l.length<=6):(dV l).length<=97:=by
 have:=eV bX 16 l fun p _=>Nat.le_of_eq (show (bX p).length=16 by simp [bX,bN])
 unfold dV
 rw [List.length_append,aV]
 omega
theorem Lp {n:bK} (h:CV n=true):(dO n).length<=4000:=by
 have hm:=Bu h
 have h1:=Cz hm.1
 have h2:=Cz hm.2.1
 unfold dO
 simp only [List.length_append,aV,bN,nK]
 omega
theorem FV {p:aL} (h:gY p=true):(bZ p).length<=4000:=by
 have hm:=qZ h
 have h1:=Cz hm.labels
 unfold gY Bl at h
 simp only [Bool.and_eq_true] at h
 obtain ⟨_,_,_,_,_,_,_,_,h8,h9,⟨_,_,GM,LI,_⟩,_⟩:=h
 have t1:=Cy h8
 have t2:=Cy GM
 have t3:=Cy LI
 have t4:=eV jB 17 p.bW fun t _=>Nat.le_of_eq (qW t)
 have t5:=eV kD 2 p.aN fun _ _=>Nat.le_of_eq (aV _ _)
 have h6:=hm.bW
 have h7:=hm.aN
 unfold bZ Bi DL
 simp only [List.length_append,aV,bN,nK]
 omega
open Go
theorem HI {s:dY} {p:aL} {node:aU}:∀ {lo:List aL} {gone:List aU},(iD s p node lo gone).Sublist gone
 |[],_=>.refl _
 |q::r,gone=>by
  rw [iD]
  refine List.Sublist.trans HI ?_
  split
  · exact List.filter_sublist
  · exact .refl _
theorem Np {s:dY} {p:aL} {node:aU} {l:List aU} (hn:s.aE.Pairwise fun a b=>a.name≠b.name) (h:mJ s p node=some l):l.Nodup:=by
 unfold mJ at h
 split at h
 · cases h
   refine ((List.mergeSort_perm _ _).nodup_iff).2 (List.Nodup.sublist HI ?_)
   refine List.pairwise_map.2 ?_
   unfold mI
   exact ((CQ _).pairwise_iff (fun {a b} h=>Ne.symm h)).2 ((hn.sublist List.filter_sublist).sublist List.filter_sublist)
 · cases h
theorem Jm:∀ {ws:List Hv} {S:List aU},(∀ w∈ws,Au w.key=true/\(w.gone=true->w.val=[])/\w.val.length<=4000)->(ws.map (·.key)).Nodup->(∀ w∈ws,w.key∉S)->Gz S ws=true
 |[],_,_,_,_=>rfl
 |w::r,S,h1,h2,h3=>by
  rw [List.map_cons,List.nodup_cons] at h2
  obtain ⟨a,b,c⟩:=h1 w (.head _)
  rw [Gz,Jm (fun w hw=>h1 w (.tail _ hw)) h2.2 fun x hx hm=>?_]
  · unfold VP
    rw [a,decide_eq_false (h3 w (.head _)),decide_eq_true c]
    cases hg:w.gone
    · rfl
    · rw [b hg];rfl
  · rcases List.mem_append.1 hm with hm|hm
    · exact h3 x (.tail _ hx) hm
    · rw [List.mem_singleton] at hm
      exact h2.1 (hm▸List.mem_map.2 ⟨x,hx,rfl⟩)
theorem xO {a b:aU} (h:bO a=bO b):a=b:=by
 unfold bO at h
 simpa using h
structure xP (f:aU->Int) (lv:List Int) (s:dY) (R:Int) (p:aL) (n:bK) (vs:List aU) (X:List dG):Prop where
 Z2:s.nodes.Pairwise fun a b=>bR a.name b.name
 jK:lV s.aE
 nb:∀ n∈s.nodes,CV n=true
 pb:∀ p∈s.aE,gY p=true
 pin:p∈s.aE
 nin:n∈s.nodes
 Z3:∀ v∈vs,∃ q∈s.aE,q.name=v/\q.name≠p.name
 vnd:vs.Nodup
 aj7:vs.length<=19
 x:X=vs.map fun v=>((eA (xM f lv s) (bO v)).getD ⟨[],0,[]⟩)
 f1:f oT=1
 fr:∀ k,1<=f k/\f k<=R
theorem Qs {s:aU} (h:bI s=true):1<=s.length/\s.length<=12:=gL h
theorem yP {p:aL} (h:gY p=true):bI p.name=true:=by unfold gY at h;simp only [Bool.and_eq_true] at h;exact h.1
theorem FW {n:bK} (h:CV n=true):bI n.name=true:=by unfold CV at h;simp only [Bool.and_eq_true] at h;exact h.1
section
variable {f:aU->Int} {lv:List Int} {s:dY} {R:Int} {p:aL} {n:bK} {vs:List aU} {X:List dG} (hP:xP f lv s R p n vs X)
include hP
theorem xP.Qt {q:aL} (hq:q∈s.aE):eA (xM f lv s) (bO q.name)=some ⟨bO q.name,f (bO q.name),bZ q⟩:=
 (rB hP.Z2 hP.jK).get _ (yO.2 (.inr (.inr ⟨q,hq,rfl⟩)))
theorem xP.Zq {q:bK} (hq:q∈s.nodes):eA (xM f lv s) (dK q.name)=some ⟨dK q.name,f (dK q.name),dO q⟩:=
 (rB hP.Z2 hP.jK).get _ (yO.2 (.inr (.inl ⟨q,hq,rfl⟩)))
theorem xP.aeE:eA (xM f lv s) oT=some ⟨oT,f oT,lv⟩:=
 (rB hP.Z2 hP.jK).get _ (yO.2 (.inl rfl))
theorem xP.aeF {v:aU} (hv:v∈vs):∃ q∈s.aE,q.name=v/\q.name≠p.name/\(eA (xM f lv s) (bO v)).getD ⟨[],0,[]⟩=⟨bO v,f (bO v),bZ q⟩:=by
 obtain ⟨q,h1,h2,h3⟩:=hP.Z3 v hv
 exact ⟨q,h1,h2,h3,by rw [<-h2,hP.Qt h1];rfl⟩
theorem xP.keys:X.map (·.key)=vs.map bO:=by
 rw [hP.x,List.map_map]
 refine List.map_congr_left fun v hv=>?_
 obtain ⟨q,_,_,_,h⟩:=hP.aeF hv
 show ((eA (xM f lv s) (bO v)).getD ⟨[],0,[]⟩).key=_
 rw [h]
theorem xP.may {q:aL} (hq:gY q=true):Cv (rE R 1 ⟨bO p.name,f (bO p.name),bZ p⟩ ⟨dK n.name,f (dK n.name),dO n⟩) (sO ⟨bO p.name,f (bO p.name),bZ p⟩ q::X.map kO)=true:=by
 have Oc:=Qs (yP (hP.pb p hP.pin))
 have Ly:=Qs (FW (hP.nb n hP.nin))
 have L7:X.length=vs.length:=by rw [hP.x,List.length_map]
 have Jv:=hP.aj7
 have kP:Au (bO p.name)=true:=by unfold Au bO;simp;omega
 have kN:Au (dK n.name)=true:=by unfold Au dK;simp;omega
 have r1:=hP.fr (bO p.name)
 have r2:=hP.fr (dK n.name)
 have r3:=hP.fr oT
 unfold Cv
 rw [Jm (fun w hw=>?_) ?_ fun w _ h=>by cases h]
 · have:(rE R 1 ⟨bO p.name,f (bO p.name),bZ p⟩ ⟨dK n.name,f (dK n.name),dO n⟩).all Qc=true:=by
    unfold rE Qc
    simp only [List.all_cons,List.all_nil,kP,kN,Bool.true_and,Bool.and_true,Bool.and_eq_true,decide_eq_true_eq]
    exact ⟨⟨rfl,by omega⟩,by omega,by omega,⟨rfl,by omega⟩,rfl,by omega⟩
   rw [this]
   simp [rE]
   omega
 · have h1:(sO ⟨bO p.name,f (bO p.name),bZ p⟩ q::X.map kO).map (·.key)=bO p.name::vs.map bO:=by
    rw [List.map_cons,List.map_map,<-hP.keys];rfl
   rw [h1,List.nodup_cons]
   refine ⟨fun hm=>?_,List.Pairwise.map _ (fun a b h e=>h (xO e)) hP.vnd⟩
   obtain ⟨v,hv,h2⟩:=List.mem_map.1 hm
   obtain ⟨q',_,h4,h5⟩:=hP.Z3 v hv
   exact h5 (h4.trans (xO h2))
 · cases hw with
   |head=>exact ⟨kP,(fun h=>by cases h),FV hq⟩
   |tail _ hw=>
    obtain ⟨x,hx,rfl⟩:=List.mem_map.1 hw
    have h1:x.key∈X.map (·.key):=List.mem_map.2 ⟨x,hx,rfl⟩
    rw [hP.keys] at h1
    obtain ⟨v,hv,h2⟩:=List.mem_map.1 h1
    obtain ⟨q',h3,h4,_⟩:=hP.Z3 v hv
    have:=Qs (yP (hP.pb q' h3))
    refine ⟨?_,fun _=>rfl,Nat.zero_le _⟩
    show Au x.key=true
    rw [<-h2,<-h4]
    unfold Au bO;simp;omega
theorem xP.holds {D:List dG} {T:List (aU×Int)} (hr:gB D (xM f lv s)) (hT:∀ t∈T,t.2<=R):(rE R 1 ⟨bO p.name,f (bO p.name),bZ p⟩ ⟨dK n.name,f (dK n.name),dO n⟩).all (j4 D T)=true:=by
 have hu:∀ k,j4 D T ⟨k,R,true⟩=true:=fun k=>by
  unfold j4
  dsimp only
  rw [List.all_eq_true]
  intro t ht
  have:=hT t ht
  rw [decide_eq_false (by omega)];rfl
 unfold rE
 simp only [List.all_cons,List.all_nil,hu,Bool.and_true]
 unfold j4
 dsimp only
 rw [hr.P4,hr.P4,hr.P4,hP.aeE,hP.Qt hP.pin,hP.Zq hP.nin,]
 simp [hP.f1]
theorem xP.can {D:List dG} (hr:gB D (xM f lv s)) (e:dG) (q:aL):Dl D (sO e q::X.map kO)=true:=by
 rw [Dl,show (sO e q).gone=false from rfl,Bool.false_and,Bool.not_false,Bool.true_and]
 have:∀ l:List dG,(∀ x∈l,x∈X)->Dl D (l.map kO)=true:=by
  intro l
  induction l with
  |nil=>intro _;rfl
  |cons x r ih=>
   intro h
   rw [List.map_cons,Dl,ih fun y hy=>h y (.tail _ hy)]
   have hx:=h x (.head _)
   have h1:x.key∈X.map (·.key):=List.mem_map.2 ⟨x,hx,rfl⟩
   rw [hP.keys] at h1
   obtain ⟨v,hv,h2⟩:=List.mem_map.1 h1
   obtain ⟨q',h3,h4,_⟩:=hP.Z3 v hv
   rw [show (kO x).key=bO q'.name by show x.key=_;rw [<-h2,h4],hr.P4,hP.Qt h3]
   simp
 exact this X fun x hx=>hx
theorem xP.ok {D:List dG} {T:List (aU×Int)} (hr:gB D (xM f lv s)) (hT:∀ t∈T,t.2<=R) {q:aL} (hq:gY q=true):xI D T (rE R 1 ⟨bO p.name,f (bO p.name),bZ p⟩ ⟨dK n.name,f (dK n.name),dO n⟩) (sO ⟨bO p.name,f (bO p.name),bZ p⟩ q::X.map kO)=0:=by
 unfold xI
 rw [hP.may hq,hP.holds hr hT,hP.can hr]
 rfl
end
open Go
theorem HJ:∀ {l:List kJ} {D L:List dG},gB D L->gB (l.foldl kM D) (l.foldl TC L)
 |[],_,_,h=>h
 |x::r,_,_,h=>HJ (l:=r) (h.step x)
theorem HK (R:Int) (k:aU):∀ {X:List dG} {D:List dG},(D.map (·.key)).Nodup->eA ((AD R (X.map kO)).foldl kM D) k=if k∈X.map (·.key) then none else eA D k
 |[],D,_=>by simp [AD]
 |x::r,D,hn=>by
  have h1:(AD R ((x::r).map kO)).foldl kM D=(AD R (r.map kO)).foldl kM (Di D x.key):=rfl
  rw [h1,HK R k (hn.sublist ((Bp _ _).map _)),FG _ _ hn]
  by_cases hk:k=x.key
  · simp [hk]
  · simp [hk]
section
variable {f:aU->Int} {lv:List Int} {s:dY} {R:Int} {p:aL} {n:bK} {vs:List aU} {X:List dG} (hP:xP f lv s R p n vs X)
include hP
theorem xP.after {D:List dG} (hr:gB D (xM f lv s)) {q:aL} (Xi:q.name=p.name) {w:dY} (hw:Ll s vs q w) {f':aU->Int} (hf:f'=fun k=>if k=bO p.name then R+1 else f k):
 gB ((AD (R+1) (sO ⟨bO p.name,f (bO p.name),bZ p⟩ q::X.map kO)).foldl kM D) (xM f' lv w):=by
 have hwr:sL (xM f' lv w):=rB (by rw [hw.nodes];exact hP.Z2) hw.jK
 have fL:f' oT=f oT:=by rw [hf];exact if_neg fun h=>by cases h
 have fN:∀ x,f' (dK x)=f (dK x):=fun x=>by rw [hf];exact if_neg fun h=>by unfold dK bO at h;simp at h
 have fP:∀ x,x≠p.name->f' (bO x)=f (bO x):=fun x hx=>by rw [hf];exact if_neg fun h=>hx (xO h)
 have fp:f' (bO p.name)=R+1:=by rw [hf];exact if_pos rfl
 have mY:(AD (R+1) (sO ⟨bO p.name,f (bO p.name),bZ p⟩ q::X.map kO)).foldl kM D=(AD (R+1) (X.map kO)).foldl kM (sK D ⟨bO p.name,R+1,bZ q⟩):=rfl
 refine ⟨fun k=>?_,(HJ hr).nd,hwr⟩
 have Oc:((sK D ⟨bO p.name,R+1,bZ q⟩).map (·.key)).Nodup:=As _ hr.nd
 rw [mY,HK _ _ Oc,Bo,hP.keys]
 dsimp only
 have hvk:∀ x,bO x∈vs.map bO↔x∈vs:=fun x=>⟨fun h=>by obtain ⟨v,h1,h2⟩:=List.mem_map.1 h;exact xO h2▸h1,fun h=>List.mem_map.2 ⟨x,h,rfl⟩⟩
 have hpv:p.name∉vs:=fun h=>by obtain ⟨a,_,h2,h3⟩:=hP.Z3 _ h;exact h3 h2
 refine Option.ext fun e=>?_
 rw [FR hwr,yO,hw.nodes]
 constructor
 · intro h
   split at h
   · cases h
   rename_i XE
   split at h
   · rename_i hk
     cases h
     refine ⟨.inr (.inr ⟨q,(hw.mem q).2 (.inl rfl),?_⟩),hk.symm⟩
     rw [Xi,fp]
   · rename_i hk
     rw [hr.P4,FR (rB hP.Z2 hP.jK),yO] at h
     obtain ⟨h1|⟨x,h1,h2⟩|⟨x,h1,h2⟩,h3⟩:=h
     · exact ⟨.inl (by rw [fL];exact h1),h3⟩
     · exact ⟨.inr (.inl ⟨x,h1,by rw [fN];exact h2⟩),h3⟩
     · have hx:bO x.name=k:=by rw [<-h3,h2]
       have hxp:x.name≠p.name:=fun e=>hk (by rw [<-hx,e])
       refine ⟨.inr (.inr ⟨x,(hw.mem x).2 (.inr ⟨h1,by rw [Xi];exact hxp,fun hv=>XE ?_⟩),by rw [fP _ hxp];exact h2⟩),h3⟩
       rw [<-hx]
       exact (hvk _).2 hv
 · rintro ⟨h1|⟨x,h1,h2⟩|⟨x,h1,h2⟩,h3⟩
   · have hk:k=oT:=by rw [<-h3,h1]
     subst hk
     rw [if_neg (fun h=>by obtain ⟨v,_,h2⟩:=List.mem_map.1 h;cases h2),if_neg (fun h=>by cases h),hr.P4,hP.aeE,h1,fL]
   · have hk:k=dK x.name:=by rw [<-h3,h2]
     subst hk
     rw [if_neg (fun h=>by obtain ⟨v,_,h2⟩:=List.mem_map.1 h;unfold dK bO at h2;simp at h2),if_neg (fun h=>by unfold dK bO at h;simp at h),hr.P4,hP.Zq h1,h2,fN]
   · have hk:k=bO x.name:=by rw [<-h3,h2]
     subst hk
     rcases (hw.mem x).1 h1 with rfl|⟨h4,h5,h6⟩
     · rw [if_neg (fun h=>by rw [hvk,Xi] at h;exact hpv h),if_pos (by rw [Xi]),h2,Xi,fp]
     · rw [Xi] at h5
       rw [if_neg (fun h=>by rw [hvk] at h;exact h6 h),if_neg (fun h=>h5 (xO h)),hr.P4,hP.Qt h4,h2,fP _ h5]
theorem xP.again {D:List dG} {T:List (aU×Int)} {q:aL} (hq:gY q=true) (Xi:q.name=p.name) {w:dY} (hw:Ll s vs q w) {f':aU->Int} (hf:f'=fun k=>if k=bO p.name then R+1 else f k) (hr:gB D (xM f' lv w)):
 xI D T (rE R 1 ⟨bO p.name,f (bO p.name),bZ p⟩ ⟨dK n.name,f (dK n.name),dO n⟩) (sO ⟨bO p.name,f (bO p.name),bZ p⟩ q::X.map kO)=6:=by
 have hwr:sL (xM f' lv w):=rB (by rw [hw.nodes];exact hP.Z2) hw.jK
 have hg:eA D (bO p.name)=some ⟨bO p.name,R+1,bZ q⟩:=by
  rw [hr.P4]
  refine hwr.get (⟨bO p.name,R+1,bZ q⟩:dG) (yO.2 (.inr (.inr ⟨q,(hw.mem q).2 (.inl rfl),?_⟩)))
  rw [Xi,hf]
  simp
 have h1:=(hP.fr (bO p.name)).2
 unfold xI
 rw [hP.may hq]
 have:(rE R 1 ⟨bO p.name,f (bO p.name),bZ p⟩ ⟨dK n.name,f (dK n.name),dO n⟩).all (j4 D T)=false:=by
  rw [List.all_eq_false]
  refine ⟨⟨bO p.name,f (bO p.name),false⟩,by simp [rE],?_⟩
  unfold j4
  dsimp only
  rw [hg]
  simp
  omega
 rw [this];rfl
theorem xP.find (i:Nat) (v:aU) (x:dG) (hv:vs[i]? =some v) (hx:X[i]? =some x):bI v=true/\findD (xM f lv s) (bO v)=some x:=by
 obtain ⟨q,h1,h2,h3,h4⟩:=hP.aeF (List.mem_of_getElem? hv)
 rw [hP.x,List.getElem?_map,hv] at hx
 cases hx
 refine ⟨by rw [<-h2];exact yP (hP.pb q h1),?_⟩
 unfold findD
 rw [if_neg (by unfold bO;simp),<-h2]
 show eA _ _=some ((eA (xM f lv s) (bO q.name)).getD ⟨[],0,[]⟩)
 rw [hP.Qt h1];rfl
theorem xP.aeG:findD (xM f lv s) (bO p.name)=some ⟨bO p.name,f (bO p.name),bZ p⟩:=by
 unfold findD
 rw [if_neg (by unfold bO;simp),hP.Qt hP.pin]
theorem xP.aeH:findD (xM f lv s) (dK n.name)=some ⟨dK n.name,f (dK n.name),dO n⟩:=by
 unfold findD
 rw [if_neg (by unfold dK;simp),hP.Zq hP.nin]
end
open Go
def doO (pT:aU):Option (aU×List aU)->List V
 |none=>[.s [],.s [],.sl none 1 []]
 |some d=>[.s pT,.s d.1,.sl none 1 (d.2.map bE)]
structure aeI (s:dY) (p:aL) (o:Option (aU×List aU)):Prop where
 f:∀ n vs,o=some (n,vs)->gR (aW s vs) p n=true/\vs.Nodup/\vs.length<=s.aE.length/\∀ v∈vs,∃ q∈s.aE,q.name=v/\q.prio<p.prio
section
variable {P:Program} (hG:bP P AF.fns.get)
include hG
theorem Ua (eK:gZ P) (hS:Bd P 81 61) (w:dY) (p:aL) (pack:Bool) (UE:w.ok) (hp:p.fit) (wO:Small w) (h6:w.nodes.length<=6) (h17:w.aE.length<=19) (mC:∀ q∈w.aE,iM q) (Zr:w.aE.Pairwise fun a b=>a.name≠b.name) (PL:w.nodes.Pairwise fun a b=>bR a.name b.name):
 ∃ o,aeI w p o/\Pure P 13 [kS w,.agg (aI p),.b pack] (·=.bY [.agg (doO p.name o),.b o.isSome]):=by
 have CS:(jA w p).length<=6:=by
  rw [jA,List.length_map]
  exact Nat.le_trans (List.length_filter_le _ _) h6
 have k1:=best_ok hG w p pack CS (where_ok hG eK w p UE hp wO h6 PL) (fun node=>PS hG w p node pack UE hp wO mC)
 have k2:=evbest_ok hG eK hS w p UE hp wO h6 h17 mC PL
 obtain ⟨b1,b2⟩:=M3 (s:=w) (p:=p) (pack:=pack)
 generalize (zQ w p pack).2=n at k1 b2
 generalize decide ((zQ w p pack).1>=0)=x at k1 b1 b2
 have k3:=plan_ok hG w p pack n x (An w p) k1 k2
 cases Z4:jA w p with
 |nil=>
  have:=b1 Z4
  subst this
  rw [if_neg (by decide)] at k3
  cases uT:An w p with
  |none=>
   rw [uT] at k3
   exact ⟨none,⟨fun n vs e=>by cases e⟩,k3⟩
  |some d=>
   rw [uT] at k3
   obtain ⟨d1,d2,dc⟩:=d
   have H3:=M1 uT
   refine ⟨some (d1,d2),⟨fun n vs e=>?_⟩,k3⟩
   cases e
   obtain ⟨q1,q2⟩:=PF H3
   exact ⟨q1,Np Zr H3,KJ H3,fun v hv=>by obtain ⟨q,a,b,_,c⟩:=q2 v hv;exact ⟨q,a,b,c⟩⟩
 |cons y r=>
  obtain ⟨hx,hn⟩:=b2 (by rw [Z4];exact List.cons_ne_nil _ _)
  subst hx
  rw [if_pos rfl] at k3
  refine ⟨some (n,[]),⟨fun m vs e=>?_⟩,k3⟩
  cases e
  refine ⟨?_,List.nodup_nil,Nat.zero_le _,fun v hv=>by cases hv⟩
  rw [KH]
  exact Ha hn
theorem putl5_ok:Pure P 11 [.agg [.i .i64 1,.i .i64 5]] (·=.sl none 1 ([3,1,0,0,0,0,0,0,0,5].map hM)):=by
 refine aP (hG _ AF.f11 rfl) rfl ?_
 ((conv=>whnf);repeat ((first|refine cA (jX (hG _ _ rfl) rfl) ?_|refine sI.un rfl ?_|refine aR.of (by decide) (by decide) ?_|refine aR.mk ?_|refine zz ?_|refine bD.un rfl ?_)<;>(conv=>whnf)))
 exact aG rfl rfl
end
open Go
theorem jI {α:Type} [BEq α] [LawfulBEq α] (a:α):(!(a==a))=false:=by simp
theorem jJ (n:Int):(!decide (n=n))=false:=by simp
theorem OK (a b:aU):(!(a==a&&(b==b&&true)))=false:=by simp
theorem OL (a b:aU) (c:Bool):(!(a==a&&(b==b&&(c==c&&true))))=false:=by simp
theorem OM (a b c:Int):(decide (a=a)&&(decide (b=b)&&(decide (c=c)&&true)))=true:=by simp
section
variable {P:Program} (hG:bP P AF.fns.get)
include hG
theorem C6 (l:List cX) (hl:l.length<=1000000) {h:aA} {K:V->aA->Prop} (hK:K (.b true) h):aC P 146 [.sl none 2 (l.map aY),.sl none 2 (l.map aY)] h K:=by
 have gK:(l.map aY).length=l.length:=List.length_map _
 refine dU (hG _ AF.f146 rfl) rfl ?_
 ((conv=>whnf);repeat ((first|refine aH.ff (jI _) ?_|refine aH.ff (jJ _) ?_|refine aH.ff (OK _ _) ?_|refine aH.ff (OL _ _ _) ?_|refine aH.tt (beq_self_eq_true _) ?_|refine aH.tt (decide_eq_true rfl) ?_|refine aH.tt (OM _ _ _) ?_|refine zz ?_)<;>(conv=>whnf)))
 refine cS.by (fun q fr st=>∃ (i:Nat) (lo:aA),i<=l.length/\q=l.length - i/\Fr.le [(13,.i .i64 i),(12,.i .i64 (l.map aY).length),(1,.sl none 2 (l.map aY)),(0,.sl none 2 (l.map aY))] fr/\st=⟨h,lo⟩)
  l.length ⟨0,_,Nat.zero_le _,rfl,cT,rfl⟩ ?_
 rintro q fr st ⟨i,lo,hi,rfl,hle,rfl⟩
 refine ⟨_,hle,fun R hR=>?_⟩
 by_cases cY:i<l.length
 · have he:=List.getElem?_eq_getElem cY
   generalize l[i]=e at he
   ((conv=>whnf);repeat ((first|refine aH.dt (show (i:Int)<(l.map aY).length by omega) ?_|refine aM.ix (by omega) (by omega) ?_|refine aR.gA (by omega) (by omega) ?_|refine aH.ff (jI _) ?_|refine aH.ff (jJ _) ?_|refine aH.ff (OK _ _) ?_|refine aH.ff (OL _ _ _) ?_|refine aH.tt (beq_self_eq_true _) ?_|refine aH.tt (decide_eq_true rfl) ?_|refine aH.tt (OM _ _ _) ?_|refine ye (aF (f:=aY) (by omega) he) ?_|refine zz ?_)<;>(conv=>whnf)))
   exact hR (l.length - (i+1)) _ _ (by omega) ⟨i+1,_,by omega,rfl,cT,rfl⟩
 · clear hR hle
   ((conv=>whnf);repeat ((first|refine aH.df (show ¬(i:Int)<(l.map aY).length by omega) ?_|refine zz ?_)<;>(conv=>whnf)))
   exact hK
theorem xQ (l:List cM) (hl:l.length<=1000000) (hv:∀ t∈l,t.bF.length<=1000000) {h:aA} {K:V->aA->Prop} (hK:K (.b true) h):aC P 242 [.sl none 3 (l.map bA),.sl none 3 (l.map bA)] h K:=by
 have gK:(l.map bA).length=l.length:=List.length_map _
 refine dU (hG _ AF.f242 rfl) rfl ?_
 ((conv=>whnf);repeat ((first|refine aH.ff (jI _) ?_|refine aH.ff (jJ _) ?_|refine aH.ff (OK _ _) ?_|refine aH.ff (OL _ _ _) ?_|refine aH.tt (beq_self_eq_true _) ?_|refine aH.tt (decide_eq_true rfl) ?_|refine aH.tt (OM _ _ _) ?_|refine zz ?_)<;>(conv=>whnf)))
 refine cS.by (fun q fr st=>∃ (i:Nat) (lo:aA),i<=l.length/\q=l.length - i/\Fr.le [(14,.i .i64 i),(13,.i .i64 (l.map bA).length),(1,.sl none 3 (l.map bA)),(0,.sl none 3 (l.map bA))] fr/\st=⟨h,lo⟩)
  l.length ⟨0,_,Nat.zero_le _,rfl,cT,rfl⟩ ?_
 rintro q fr st ⟨i,lo,hi,rfl,hle,rfl⟩
 refine ⟨_,hle,fun R hR=>?_⟩
 by_cases cY:i<l.length
 · have he:=List.getElem?_eq_getElem cY
   generalize l[i]=e at he
   have hvm:(e.bF.map bE).length=e.bF.length:=List.length_map _
   have hve:=hv _ (List.mem_of_getElem? he)
   ((conv=>whnf);repeat ((first|refine aH.dt (show (i:Int)<(l.map bA).length by omega) ?_|refine aM.ix (by omega) (by omega) ?_|refine aH.ff (jI _) ?_|refine aH.ff (jJ _) ?_|refine aH.ff (OK _ _) ?_|refine aH.ff (OL _ _ _) ?_|refine aH.tt (beq_self_eq_true _) ?_|refine aH.tt (decide_eq_true rfl) ?_|refine aH.tt (OM _ _ _) ?_|refine ye (aF (f:=bA) (by omega) he) ?_|refine zz ?_)<;>(conv=>whnf)))
   refine cS.by (fun q fr st=>∃ (j:Nat) (lo:aA),j<=e.bF.length/\q=e.bF.length - j/\Fr.le [(62,.i .i64 j),(61,.i .i64 (e.bF.map bE).length),(14,.i .i64 i),(13,.i .i64 (l.map bA).length),(5,.i .i64 i),(1,.sl none 3 (l.map bA)),(0,.sl none 3 (l.map bA))] fr/\st=⟨h,lo⟩)
    e.bF.length ⟨0,_,Nat.zero_le _,rfl,cT,rfl⟩ ?_
   rintro q fr st ⟨j,lo,hj,rfl,hle,rfl⟩
   refine ⟨_,hle,fun R' hR'=>?_⟩
   by_cases F9:j<e.bF.length
   · have hx:=List.getElem?_eq_getElem F9
     generalize e.bF[j]=x at hx
     ((conv=>whnf);repeat ((first|refine aH.dt (show (j:Int)<(e.bF.map bE).length by omega) ?_|refine aM.ix (by omega) (by omega) ?_|refine aR.gA (by omega) (by omega) ?_|refine aH.ff (jI _) ?_|refine aH.ff (jJ _) ?_|refine aH.ff (OK _ _) ?_|refine aH.ff (OL _ _ _) ?_|refine aH.tt (beq_self_eq_true _) ?_|refine aH.tt (decide_eq_true rfl) ?_|refine aH.tt (OM _ _ _) ?_|refine ye (aF (f:=bA) (by omega) he) ?_|refine ye (aF (f:=bE) (by omega) hx) ?_|refine zz ?_)<;>(conv=>whnf)))
     exact hR' (e.bF.length - (j+1)) _ _ (by omega) ⟨j+1,_,by omega,rfl,cT,rfl⟩
   · clear hR'
     ((conv=>whnf);repeat ((first|refine aH.df (show ¬(j:Int)<(e.bF.map bE).length by omega) ?_|refine aR.gA (by omega) (by omega) ?_|refine zz ?_)<;>(conv=>whnf)))
     exact hR (l.length - (i+1)) _ _ (by omega) ⟨i+1,_,by omega,rfl,cT,rfl⟩
 · clear hR hle
   ((conv=>whnf);repeat ((first|refine aH.df (show ¬(i:Int)<(l.map bA).length by omega) ?_|refine zz ?_)<;>(conv=>whnf)))
   exact hK
theorem Lq (p:aL) (hp:pE p) (hl:p.aN.length<=1000000/\p.labels.length<=1000000/\p.bW.length<=1000000) (hs:p.lM.length<=1000000/\∀ t∈p.lM,t.bF.length<=1000000) (ha:p.cV.length<=1000000/\∀ t∈p.cV,t.bF.length<=1000000) (he:p.even.length<=1000000/\∀ t∈p.even,t.bF.length<=1000000) {h:aA} {K:V->aA->Prop} (hK:K (.b true) h):aC P 147 [.agg (aI p),.agg (aI p)] h K:=by
 have XQ:(p.aN.map fA).length=p.aN.length:=List.length_map _
 have Gx:(p.bW.map eP).length=p.bW.length:=List.length_map _
 have c1:=fun K hK=>C6 (K:=K) hG p.labels hl.2.1 (h:=h) hK
 have c2:=fun K hK=>xQ (K:=K) hG p.lM hs.1 hs.2 (h:=h) hK
 have c3:=fun K hK=>xQ (K:=K) hG p.cV ha.1 ha.2 (h:=h) hK
 have c4:=fun K hK=>xQ (K:=K) hG p.even he.1 he.2 (h:=h) hK
 clear he hs ha
 refine dU (hG _ AF.f147 rfl) rfl ?_
 ((conv=>whnf);repeat ((first|refine aH.ff (jI _) ?_|refine aH.ff (jJ _) ?_|refine aH.ff (OK _ _) ?_|refine aH.ff (OL _ _ _) ?_|refine aH.tt (beq_self_eq_true _) ?_|refine aH.tt (decide_eq_true rfl) ?_|refine aH.tt (OM _ _ _) ?_|refine zz ?_)<;>(conv=>whnf)))
 refine cS.by (fun q fr st=>∃ (i:Nat) (lo:aA),i<=p.aN.length/\q=p.aN.length - i/\Fr.le [(26,.i .i64 i),(25,.i .i64 (p.aN.map fA).length),(3,.p (.l 1) 0),(2,.p (.l 0) 0)] fr/\st=⟨h,lo⟩/\lo.get 0=some (.cs (aI p))/\lo.get 1=some (.cs (aI p)))
  p.aN.length ⟨0,_,Nat.zero_le _,rfl,cT,rfl,rfl,rfl⟩ ?_
 rintro q fr st ⟨i,lo,hi,rfl,hle,rfl,g0,g1⟩
 refine ⟨_,hle,fun R hR=>?_⟩
 by_cases cY:i<p.aN.length
 · have he:=List.getElem?_eq_getElem cY
   generalize p.aN[i]=e at he
   ((conv=>whnf);repeat ((first|refine aH.dt (show (i:Int)<(p.aN.map fA).length by omega) ?_|refine aM.ix (by omega) (by omega) ?_|refine aR.gA (by omega) (by omega) ?_|refine aH.ff (jI _) ?_|refine aH.ff (jJ _) ?_|refine aH.ff (OK _ _) ?_|refine aH.ff (OL _ _ _) ?_|refine aH.tt (beq_self_eq_true _) ?_|refine aH.tt (decide_eq_true rfl) ?_|refine aH.tt (OM _ _ _) ?_|refine ye (aF (f:=fA) (by omega) he) ?_|refine ye (g0) ?_|refine ye (g1) ?_|refine zz ?_)<;>(conv=>whnf)))
   exact hR (p.aN.length - (i+1)) _ _ (by omega) ⟨i+1,_,by omega,rfl,cT,rfl,g0,g1⟩
 · clear hR hle
   ((conv=>whnf);repeat ((first|refine aH.df (show ¬(i:Int)<(p.aN.map fA).length by omega) ?_|refine ye (g0) ?_|refine ye (g1) ?_|refine zz ?_)<;>(conv=>whnf)))
   refine cS.by (fun q fr st=>∃ (i:Nat) (lo:aA),i<=p.bW.length/\q=p.bW.length - i/\Fr.le [(44,.i .i64 i),(43,.i .i64 (p.bW.map eP).length),(3,.p (.l 1) 0),(2,.p (.l 0) 0)] fr/\st=⟨h,lo⟩/\lo.get 0=some (.cs (aI p))/\lo.get 1=some (.cs (aI p)))
    p.bW.length ⟨0,_,Nat.zero_le _,rfl,cT,rfl,g0,g1⟩ ?_
   clear cY hi
   rintro q fr st ⟨i,lo,hi,rfl,hle,rfl,g0,g1⟩
   refine ⟨_,hle,fun R hR=>?_⟩
   by_cases cY:i<p.bW.length
   · have he:=List.getElem?_eq_getElem cY
     generalize p.bW[i]=e at he
     ((conv=>whnf);repeat ((first|refine aH.dt (show (i:Int)<(p.bW.map eP).length by omega) ?_|refine aM.ix (by omega) (by omega) ?_|refine aR.gA (by omega) (by omega) ?_|refine aH.ff (jI _) ?_|refine aH.ff (jJ _) ?_|refine aH.ff (OK _ _) ?_|refine aH.ff (OL _ _ _) ?_|refine aH.tt (beq_self_eq_true _) ?_|refine aH.tt (decide_eq_true rfl) ?_|refine aH.tt (OM _ _ _) ?_|refine ye (aF (f:=eP) (by omega) he) ?_|refine ye (g0) ?_|refine ye (g1) ?_|refine zz ?_)<;>(conv=>whnf)))
     exact hR (p.bW.length - (i+1)) _ _ (by omega) ⟨i+1,_,by omega,rfl,cT,rfl,g0,g1⟩
   · clear hR hle
     ((conv=>whnf);repeat ((first|refine aH.df (show ¬(i:Int)<(p.bW.map eP).length by omega) ?_|refine ye (g0) ?_|refine ye (g1) ?_|refine zz ?_)<;>(conv=>whnf)))
     clear cY hi
     ((conv=>whnf);repeat ((first|refine cA (c1 _) ?_|refine cA (c2 _) ?_|refine cA (c3 _) ?_|refine cA (c4 _) ?_|refine aH.ff (jI _) ?_|refine aH.ff (jJ _) ?_|refine aH.ff (OK _ _) ?_|refine aH.ff (OL _ _ _) ?_|refine aH.tt (beq_self_eq_true _) ?_|refine aH.tt (decide_eq_true rfl) ?_|refine aH.tt (OM _ _ _) ?_|refine ye (g0) ?_|refine ye (g1) ?_|refine zz ?_)<;>(conv=>whnf)))
     rw [decide_eq_true (rfl:p.term=p.term)]
     exact hK
theorem Jn (n:bK) (hl:n.labels.length<=1000000/\n.cR.length<=1000000) {h:aA} {K:V->aA->Prop} (hK:K (.b true) h):aC P 64 [.agg (aK n),.agg (aK n)] h K:=by
 have Gx:(n.cR.map aY).length=n.cR.length:=List.length_map _
 have c1:=fun K hK=>C6 (K:=K) hG n.labels hl.1 (h:=h) hK
 refine dU (hG _ AF.f64 rfl) rfl ?_
 ((conv=>whnf);repeat ((first|refine aH.ff (jI _) ?_|refine aH.ff (jJ _) ?_|refine aH.ff (OK _ _) ?_|refine aH.ff (OL _ _ _) ?_|refine aH.tt (beq_self_eq_true _) ?_|refine aH.tt (decide_eq_true rfl) ?_|refine aH.tt (OM _ _ _) ?_|refine zz ?_)<;>(conv=>whnf)))
 refine cS.by (fun q fr st=>∃ (i:Nat) (lo:aA),i<=n.cR.length/\q=n.cR.length - i/\Fr.le [(16,.i .i64 i),(15,.i .i64 (n.cR.map aY).length),(3,.p (.l 1) 0),(2,.p (.l 0) 0)] fr/\st=⟨h,lo⟩/\lo.get 0=some (.cs (aK n))/\lo.get 1=some (.cs (aK n)))
  n.cR.length ⟨0,_,Nat.zero_le _,rfl,cT,rfl,rfl,rfl⟩ ?_
 rintro q fr st ⟨i,lo,hi,rfl,hle,rfl,g0,g1⟩
 refine ⟨_,hle,fun R hR=>?_⟩
 by_cases cY:i<n.cR.length
 · have he:=List.getElem?_eq_getElem cY
   generalize n.cR[i]=e at he
   ((conv=>whnf);repeat ((first|refine aH.dt (show (i:Int)<(n.cR.map aY).length by omega) ?_|refine aM.ix (by omega) (by omega) ?_|refine aR.gA (by omega) (by omega) ?_|refine aH.ff (jI _) ?_|refine aH.ff (jJ _) ?_|refine aH.ff (OK _ _) ?_|refine aH.ff (OL _ _ _) ?_|refine aH.tt (beq_self_eq_true _) ?_|refine aH.tt (decide_eq_true rfl) ?_|refine aH.tt (OM _ _ _) ?_|refine ye (aF (f:=aY) (by omega) he) ?_|refine ye (g0) ?_|refine ye (g1) ?_|refine zz ?_)<;>(conv=>whnf)))
   exact hR (n.cR.length - (i+1)) _ _ (by omega) ⟨i+1,_,by omega,rfl,cT,rfl,g0,g1⟩
 · clear hR hle
   ((conv=>whnf);repeat ((first|refine aH.df (show ¬(i:Int)<(n.cR.map aY).length by omega) ?_|refine ye (g0) ?_|refine ye (g1) ?_|refine zz ?_)<;>(conv=>whnf)))
   clear cY hi
   ((conv=>whnf);repeat ((first|refine cA (c1 _) ?_|refine aH.ff (jI _) ?_|refine aH.ff (jJ _) ?_|refine aH.ff (OK _ _) ?_|refine aH.ff (OL _ _ _) ?_|refine aH.tt (beq_self_eq_true _) ?_|refine aH.tt (decide_eq_true rfl) ?_|refine aH.tt (OM _ _ _) ?_|refine ye (g0) ?_|refine ye (g1) ?_|refine zz ?_)<;>(conv=>whnf)))
   exact hK
theorem V0 (p:aL) (hb:gY p=true) {h:aA} {K:V->aA->Prop} (hK:K (.b true) h):aC P 147 [.agg (aI p),.agg (aI p)] h K:=by
 have hm:=qZ hb
 have tm:∀ {l:List cM},wR l->l.length<=1000000/\∀ t∈l,t.bF.length<=1000000:=fun {l} h=>⟨by have:=h.1;omega,fun t ht=>by have:=h.2 t ht;omega⟩
 exact Lq hG p (xH hb) ⟨by have:=hm.aN;omega,by have:=hm.labels;omega,by have:=hm.bW;omega⟩ (tm hm.lM) (tm hm.cV) (tm hm.even) hK
theorem Jo (l:List aL) (hl:l.length<=1000000) (hb:∀ p∈l,gY p=true) {h:aA} {K:V->aA->Prop} (hK:K (.b true) h):aC P 65 [.sl none 16 (l.map aI),.sl none 16 (l.map aI)] h K:=by
 have gK:(l.map aI).length=l.length:=List.length_map _
 have hc0:=fun (p:aL) (hp:p∈l) (K:V->aA->Prop) hK=>V0 hG p (hb p hp) (h:=h) (K:=K) hK
 refine dU (hG _ AF.f65 rfl) rfl ?_
 ((conv=>whnf);repeat ((first|refine aH.ff (jI _) ?_|refine aH.ff (jJ _) ?_|refine aH.ff (OK _ _) ?_|refine aH.ff (OL _ _ _) ?_|refine aH.tt (beq_self_eq_true _) ?_|refine aH.tt (decide_eq_true rfl) ?_|refine aH.tt (OM _ _ _) ?_|refine zz ?_)<;>(conv=>whnf)))
 refine cS.by (fun q fr st=>∃ (i:Nat) (lo:aA),i<=l.length/\q=l.length - i/\Fr.le [(13,.i .i64 i),(12,.i .i64 (l.map aI).length),(1,.sl none 16 (l.map aI)),(0,.sl none 16 (l.map aI))] fr/\st=⟨h,lo⟩)
  l.length ⟨0,_,Nat.zero_le _,rfl,cT,rfl⟩ ?_
 rintro q fr st ⟨i,lo,hi,rfl,hle,rfl⟩
 refine ⟨_,hle,fun R hR=>?_⟩
 by_cases cY:i<l.length
 · have he:=List.getElem?_eq_getElem cY
   generalize l[i]=e at he
   have hc:=fun K hK=>hc0 e (List.mem_of_getElem? he) K hK
   ((conv=>whnf);repeat ((first|refine aH.dt (show (i:Int)<(l.map aI).length by omega) ?_|refine aM.ix (by omega) (by omega) ?_|refine aR.gA (by omega) (by omega) ?_|refine cA (hc _) ?_|refine ye (aF (f:=aI) (by omega) he) ?_|refine zz ?_)<;>(conv=>whnf)))
   exact hR (l.length - (i+1)) _ _ (by omega) ⟨i+1,_,by omega,rfl,cT,rfl⟩
 · clear hR hle
   ((conv=>whnf);repeat ((first|refine aH.df (show ¬(i:Int)<(l.map aI).length by omega) ?_|refine zz ?_)<;>(conv=>whnf)))
   exact hK
theorem Ub (s:dY) (hl:s.nodes.length<=1000000/\s.aE.length<=1000000) (hn:∀ n∈s.nodes,CV n=true) (hb:∀ p∈s.aE,gY p=true) {h:aA} {K:V->aA->Prop} (hK:K (.b true) h):aC P 20 [kS s,kS s] h K:=by
 have gK:(s.nodes.map aK).length=s.nodes.length:=List.length_map _
 have hc0:=fun (n:bK) (hp:n∈s.nodes) (K:V->aA->Prop) hK=>Jn hG n (by have:=Bu (hn n hp);omega) (h:=h) (K:=K) hK
 have c1:=fun K hK=>Jo (K:=K) hG s.aE hl.2 hb (h:=h) hK
 refine dU (hG _ AF.f20 rfl) rfl ?_
 ((conv=>whnf);repeat ((first|refine aH.ff (jI _) ?_|refine aH.ff (jJ _) ?_|refine aH.ff (OK _ _) ?_|refine aH.ff (OL _ _ _) ?_|refine aH.tt (beq_self_eq_true _) ?_|refine aH.tt (decide_eq_true rfl) ?_|refine aH.tt (OM _ _ _) ?_|refine zz ?_)<;>(conv=>whnf)))
 refine cS.by (fun q fr st=>∃ (i:Nat) (lo:aA),i<=s.nodes.length/\q=s.nodes.length - i/\Fr.le [(16,.i .i64 i),(15,.i .i64 (s.nodes.map aK).length),(3,.p (.l 1) 0),(2,.p (.l 0) 0)] fr/\st=⟨h,lo⟩/\lo.get 0=some (.cs [.sl none 6 (s.nodes.map aK),.sl none 16 (s.aE.map aI)])/\lo.get 1=some (.cs [.sl none 6 (s.nodes.map aK),.sl none 16 (s.aE.map aI)]))
  s.nodes.length ⟨0,_,Nat.zero_le _,rfl,cT,rfl,rfl,rfl⟩ ?_
 rintro q fr st ⟨i,lo,hi,rfl,hle,rfl,g0,g1⟩
 refine ⟨_,hle,fun R hR=>?_⟩
 by_cases cY:i<s.nodes.length
 · have he:=List.getElem?_eq_getElem cY
   generalize s.nodes[i]=e at he
   have hc:=fun K hK=>hc0 e (List.mem_of_getElem? he) K hK
   ((conv=>whnf);repeat ((first|refine aH.dt (show (i:Int)<(s.nodes.map aK).length by omega) ?_|refine aM.ix (by omega) (by omega) ?_|refine aR.gA (by omega) (by omega) ?_|refine cA (hc _) ?_|refine ye (aF (f:=aK) (by omega) he) ?_|refine ye (g0) ?_|refine ye (g1) ?_|refine zz ?_)<;>(conv=>whnf)))
   exact hR (s.nodes.length - (i+1)) _ _ (by omega) ⟨i+1,_,by omega,rfl,cT,rfl,g0,g1⟩
 · clear hR hle
   ((conv=>whnf);repeat ((first|refine aH.df (show ¬(i:Int)<(s.nodes.map aK).length by omega) ?_|refine ye (g0) ?_|refine ye (g1) ?_|refine zz ?_)<;>(conv=>whnf)))
   ((conv=>whnf);repeat ((first|refine cA (c1 _) ?_|refine ye (g0) ?_|refine ye (g1) ?_|refine zz ?_)<;>(conv=>whnf)))
   exact hK
end
open Go
section
variable {P:Program} (hG:bP P AF.fns.get)
include hG
theorem rover_at {h:aA} (s:dY) (hs:s.ok) (pT node:aU) (vs:List aU) (hl:vs.length<=1000) (hp:s.aE.length<=1000) (e:aL) (he:(aW s vs).aE.find? (fun q=>q.name==pT)=some e) {K:V->aA->Prop} (hK:K (kS (kV (aW s vs) { e with node:=node })) h):
 aC P 17 [kS s,.sl none 3 [[.s pT,.s node,.sl none 1 (vs.map bE)]]] h K:=by
 have h1:=fun K hK=>rwoL_at (K:=K) hG (h:=h) s hs vs hl hK
 have CS:(aW s vs).aE.length<=1000:=Nat.le_trans (List.length_filter_le _ _) hp
 have h2:=rgetpod_ok hG (aW s vs) pT (by unfold bQ;omega)
 rw [he] at h2
 have h3:=rwithX_ok hG (aW s vs) { e with node:=node } (by omega)
 refine dU (hG _ AF.f17 rfl) rfl ?_
 ((conv=>whnf);repeat ((first|refine cS.un rfl ?_|refine cA (h1 _) ?_|refine cA (Pure.go h2 rfl) ?_|refine cA (Pure.go h3 rfl) ?_|refine aM.ix (by decide) (by decide) ?_|refine aR.of (by decide) (by decide) ?_|refine zz ?_)<;>(conv=>whnf)))
 trace_state
 exact hK
end
end Go.Eng
