/-
Arguments of plain data: what is read of them as abstract values.
-/
import Derived.Test.YtdjbjnnfmkoceaaGreatY05
import Derived.ProofKit
import Derived.OpenShut
import Derived.Deep.Slices
import Derived.Carry
import Derived.Test.YtdjbjnnfmkoceaaGreatY07
set_option linter.unusedVariables false
set_option linter.unusedSimpArgs false
namespace Go.Eng
open Go
inductive Sh where
 |b
 |i (k:IntKind)
 |s
 |sl (row:List Sh)
mutual
def Sh.is:Sh->V->Prop
 |.b,v=>∃ x,v=.b x
 |.i k,v=>∃ n,v=.i k n/\k.min<=n/\n<=k.max
 |.s,v=>∃ l,v=.s l/\l.length<=9223372036854775807
 |.sl row,v=>∃ es,v=.sl none row.length es/\es.length<=9223372036854775807/\∀ e∈es,Sh.yD row e
def Sh.yD:List Sh->List V->Prop
 |[],[]=>True
 |a::r,v::q=>a.is v/\Sh.yD r q
 |_,_=>False
end
def uQ (P:Program) (rec:TypeId->Option (List Sh)):List Field->List Sh->Option (List Sh)
 |[],acc=>some acc
 |f::r,acc=>match rec f.type with
  |some s=>if f.offset=acc.length/\s.length=P.cellsOf f.type then uQ P rec r (acc++s) else none
  |none=>none
def CL (r:List Sh):Nat->List Sh
 |0=>[]
 |n+1=>r++CL r n
def AH (P:Program):Nat->TypeId->Option (List Sh)
 |0,_=>none
 |m+1,t=>match P.underlying t with
  |some .bool=>some [.b]
  |some (.int k)=>some [.i k]
  |some .string=>some [.s]
  |some (.slice e)=>match AH P m e with
   |some r=>if r.length=P.cellsOf e/\0<r.length then some [.sl r] else none
   |none=>none
  |some (.struct fs)=>match uQ P (AH P m) fs.toList [] with
   |some r=>if r.length=P.cellsOf t then some r else none
   |none=>none
  |some (.array n e)=>match AH P m e with
   |some r=>if r.length=P.cellsOf e/\n*r.length=P.cellsOf t then some (CL r n) else none
   |none=>none
  |_=>none
theorem zB:∀ {r:List Sh} {q:List V},Sh.yD r q->q.length=r.length
 |[],[],_=>rfl
 |[],_::_,h=>by simp [Sh.yD] at h
 |_::_,[],h=>by simp [Sh.yD] at h
 |_::r,_::q,h=>by simp only [Sh.yD] at h;simp [zB h.2]
theorem zC:∀ {r:List Sh} {q:List V} {r':List Sh} {q':List V},Sh.yD r q->Sh.yD r' q'->Sh.yD (r++r') (q++q')
 |[],[],_,_,_,h=>h
 |[],_::_,_,_,h,_=>by simp [Sh.yD] at h
 |_::_,[],_,_,h,_=>by simp [Sh.yD] at h
 |_::r,_::q,_,_,h,h'=>by simp only [Sh.yD,List.cons_append] at h ⊢;exact ⟨h.1,zC h.2 h'⟩
def EW (I:zZ) (row:List V) (cs:List Value):Prop:=row.length=cs.length/\∀ (j:Nat) (v:V) (x:Value),row[j]? =some v->cs[j]? =some x->eH I v x
theorem EW.append {I:zZ} {r r':List V} {c c':List Value} (h:EW I r c) (h':EW I r' c'):EW I (r++r') (c++c'):=by
 refine ⟨by simp [h.1,h'.1],fun j v x hj hx=>?_⟩
 rw [List.getElem?_append] at hj hx
 rw [<-h.1] at hx
 split at hj
 · rename_i dZ
   rw [if_pos dZ] at hx
   exact h.2 j v x hj hx
 · rename_i dZ
   rw [if_neg dZ] at hx
   exact h'.2 _ v x hj hx
theorem EW.one {I:zZ} {v:V} {x:Value} (h:eH I v x):EW I [v] [x]:=⟨rfl,fun j v' x' hj hx=>by
 cases j with
 |zero=>simp at hj hx;subst hj;subst hx;exact h
 |succ j=>simp at hj⟩
theorem V5 {k:IntKind} {n:Int} (h:(Lit.int k n).wf=true):k.min<=n/\n<=k.max:=by
 simpa [Lit.wf,IntKind.has] using h
section
variable {H:Type} {enc:TypeId×Value->H} {P:Program} {W:World}
def I1 (P:Program) (W:World) (enc:TypeId×Value->H) (fuel m:Nat):Prop:=∀ (t:TypeId) (cs:List Value) (x:DataW H×List MemPlace) (r:List Sh),
 DataW.trod enc P W 0 (fun _=>true) true fuel t cs=some x->AH P m t=some r->∃ row,Sh.yD r row/\EW (bF W) row cs
theorem DM {m n:Nat} (ih:I1 P W enc n m) {cs:List Value}:∀ (fs:List Field) (acc r:List Sh) (row:List V) ,uQ P (AH P m) fs acc=some r->Sh.yD acc row->EW (bF W) row (cs.take acc.length)->acc.length<=cs.length->
 (∀ f∈fs,∃ x,DataW.trod enc P W 0 (fun _=>true) true n f.type ((cs.drop f.offset).take (P.cellsOf f.type))=some x)->r.length=cs.length->∃ ai5,Sh.yD r ai5/\EW (bF W) ai5 cs
 |[],acc,r,row,h,h1,h2,h3,h4,h5=>by
  simp only [uQ,Option.some.injEq] at h
  subst h
  rw [h5,List.take_length] at h2
  exact ⟨row,h1,h2⟩
 |f::fs,acc,r,row,h,h1,h2,h3,h4,h5=>by
  simp only [uQ] at h
  split at h
  case h_2=>cases h
  rename_i s hs
  split at h
  case isFalse=>cases h
  rename_i hc
  obtain ⟨x,hx⟩:=h4 f (by simp)
  obtain ⟨afG,g1,g2⟩:=ih _ _ _ _ hx hs
  have hl:afG.length=s.length:=zB g1
  have Ky:=g2.1
  simp only [List.length_take,List.length_drop] at Ky
  have e:cs.take (acc++s).length=cs.take acc.length++(cs.drop f.offset).take (P.cellsOf f.type):=by
   rw [List.length_append,List.take_add,hc.1,hc.2]
  refine DM ih fs (acc++s) r (row++afG) h (zC h1 g1) ?_ ?_ (fun f hf=>h4 f (by simp [hf])) h5
  · rw [e];exact h2.append g2
  · rw [List.length_append];omega
theorem Gr {m n:Nat} {e:TypeId} {r:List Sh} (ih:I1 P W enc n m) (he:AH P m e=some r) (hr:r.length=P.cellsOf e):∀ (k:Nat) (cs:List Value),cs.length=k*r.length->
 (∀ i,i<k->∃ x,DataW.trod enc P W 0 (fun _=>true) true n e ((cs.drop (i*P.cellsOf e)).take (P.cellsOf e))=some x)->∃ row,Sh.yD (CL r k) row/\EW (bF W) row cs
 |0,cs,h1,_=>by
  have:cs=[]:=by simpa using h1
  subst this
  exact ⟨[],by simp [CL,Sh.yD],rfl,fun j v x hj=>by simp at hj⟩
 |k+1,cs,h1,h2=>by
  obtain ⟨x,hx⟩:=h2 0 (by omega)
  obtain ⟨ayF,a1,a2⟩:=ih _ _ _ _ hx he
  obtain ⟨afG,b1,b2⟩:=Gr ih he hr k (cs.drop r.length) (by rw [List.length_drop,h1,Nat.add_mul];omega) (fun i hi=>by
   obtain ⟨y,hy⟩:=h2 (i+1) (by omega)
   refine ⟨y,?_⟩
   rw [List.drop_drop,hr,show P.cellsOf e+i*P.cellsOf e=(i+1)*P.cellsOf e by rw [Nat.add_mul];omega]
   exact hy)
  refine ⟨ayF++afG,zC a1 b1,?_⟩
  have:=a2.append b2
  rw [Nat.zero_mul,List.drop_zero,<-hr,List.take_append_drop] at this
  exact this
theorem uR:∀ (fuel m:Nat),I1 P W enc fuel m
 |0,_,t,cs,x,r,h,_=>by simp [DataW.trod] at h
 |_+1,0,t,cs,x,r,_,h=>by simp [AH] at h
 |n+1,m+1,t,cs,x,r,h,hs=>by
  simp only [AH] at hs
  split at hs
  · rename_i ht
    cases hs
    obtain ⟨b,rfl,_⟩:=DataW.trod_bool ht h
    exact ⟨[.b b],by simp [Sh.yD,Sh.is],.one (.b b)⟩
  · rename_i k ht
    cases hs
    obtain ⟨q,rfl,_,hw⟩:=DataW.trod_int ht h
    exact ⟨[.i k q],by simp [Sh.yD,Sh.is,V5 hw],.one (.i k q)⟩
  · rename_i ht
    cases hs
    obtain ⟨s,rfl,_,hw⟩:=DataW.trod_string ht h
    refine ⟨[.s s.data.toList],?_,.one (.s s.data.toList)⟩
    simp only [Sh.yD,Sh.is,and_true]
    refine ⟨_,rfl,?_⟩
    have:s.size<=2 ^ 63 - 1:=hw
    have e:s.data.toList.length=s.size:=by simp
    omega
  · rename_i e ht
    split at hs
    case h_2=>cases hs
    rename_i r' Ke
    split at hs
    case isFalse=>cases hs
    rename_i jN
    cases hs
    rcases Go.Deep.open_slice ht h with ⟨rfl,_⟩|⟨a,len,cap,q,n',D,Pl,rfl,_,hlc,hcm,hq,_,Ij⟩
    · exact ⟨[.sl none r'.length []],by simp [Sh.yD,Sh.is],.one (.mM _)⟩
    · obtain ⟨jN,C5⟩:=jN
      have hq':q=cap:=by simpa using hq
      subst hq'
      have hm:q<=2 ^ 63 - 1:=hcm
      obtain ⟨bI,off,spot⟩:=a
      by_cases hq0:q=0
      · subst hq0
        obtain rfl:len=0:=by omega
        exact ⟨[.sl none r'.length []],by simp [Sh.yD,Sh.is],.one (.Cx _ _)⟩
      · have apA:spot=none:=by
         obtain ⟨B6,hc,_⟩:=Ij 0 (by omega)
         obtain ⟨_,hl,mN⟩:=World.cells?_some hc
         have:=mN 0 (by omega)
         rw [Nat.zero_mul,List.getElem?_eq_getElem (by omega)] at this
         simp only [Addr.add,if_true,World.cell?] at this
         split at this
         · split at this
           · cases this
           · rename_i hs;simpa using hs
         · cases this
        subst apA
        obtain ⟨f,hf⟩:=Go.Deep.choose_lt (α:=List V) (n:=len) (p:=fun i row=>Sh.yD r' row/\∀ (j:Nat) (v:V),row[j]? =some v->∃ y,bF W bI (off+(i*r'.length+j))=some y/\eH (bF W) v y) (fun i hi=>by
         obtain ⟨B6,hc,ht'⟩:=Ij i (by omega)
         obtain ⟨row,g1,g2⟩:=uR n' m _ _ _ _ ht' Ke
         refine ⟨row,g1,fun j v hj=>?_⟩
         obtain ⟨_,hl,mN⟩:=World.cells?_some hc
         have Ca:j<B6.length:=by
          have:=(List.getElem?_eq_some_iff.1 hj).1
          rw [g2.1] at this;exact this
         have h1:=mN j (by omega)
         rw [List.getElem?_eq_getElem Ca,Addr.add_lit,Addr.add_lit,o4,<-jN] at h1
         exact ⟨B6[j],by rw [<-Nat.add_assoc];exact h1,g2.2 j v _ hj (List.getElem?_eq_getElem Ca)⟩)
        have hlen:((List.range len).map f).length=len:=by simp
        have apB:∀ e∈(List.range len).map f,Sh.yD r' e:=by
         intro e he
         obtain ⟨i,hi,rfl⟩:=List.mem_map.1 he
         exact (hf i (by simpa using hi)).1
        have aj2:∀ e∈(List.range len).map f,e.length=r'.length:=fun e he=>zB (apB e he)
        have key:∀ J d,((List.range len).map f).flatten[J]? =some d->∃ y,bF W bI (off+J)=some y/\eH (bF W) d y:=by
         intro J d hJ
         have hJl:J<len*r'.length:=by
          have:=(List.getElem?_eq_some_iff.1 hJ).1
          rwa [cF aj2,hlen] at this
         have hi:J/r'.length<len:=Nat.div_lt_of_lt_mul (by rwa [Nat.mul_comm] at hJl)
         have hj:J%r'.length<r'.length:=Nat.mod_lt _ C5
         have e1:J/r'.length*r'.length+J%r'.length=J:=by rw [Nat.mul_comm];exact Nat.div_add_mod _ _
         have h2:=o6 aj2 (ix:=J/r'.length) (j:=J%r'.length) (e:=f (J/r'.length)) (by simp [hi]) hj
         rw [e1,hJ] at h2
         have:=(hf _ hi).2 _ _ h2.symm
         rwa [e1] at this
        refine ⟨[.sl none r'.length ((List.range len).map f)],?_,.one ?_⟩
        · simp only [Sh.yD,Sh.is,and_true]
          exact ⟨_,rfl,by rw [hlen];omega,apB⟩
        · have:=eH.sl (I:=bF W) r'.length ((List.range len).map f) bI off q (fun J=>(bF W bI (off+J)).getD default) (by rw [hlen];exact hlc) aj2 (fun J d hJ=>by
           obtain ⟨y,hy,_⟩:=key J d hJ
           rw [hy];rfl) (fun J d hJ=>by
           obtain ⟨y,hy,hr⟩:=key J d hJ
           rw [hy];exact hr)
          rw [hlen] at this
          exact this
  · rename_i fs ht
    split at hs
    case h_2=>cases hs
    rename_i r' Ke
    split at hs
    case isFalse=>cases hs
    rename_i jN
    cases hs
    obtain ⟨xs,n',hn,_,hl,Q5,hf⟩:=DataW.trod_struct ht h
    have hn:n=n':=by omega
    subst hn
    refine DM (uR n m) fs.toList [] _ [] Ke trivial ⟨by simp,fun j v x hj=>by simp at hj⟩ (Nat.zero_le _) (fun f hfm=>?_) (by rw [jN,hl])
    obtain ⟨i,hi⟩:=List.getElem?_of_mem hfm
    have US:fs[i]? =some f:=by simpa using hi
    have dZ:i<xs.length:=by
     rw [Q5]
     have:=(Array.getElem?_eq_some_iff.1 US).1
     exact this
    exact ⟨xs[i],by rw [hf i f US,List.getElem?_eq_getElem dZ]⟩
  · rename_i k e ht
    split at hs
    case h_2=>cases hs
    rename_i r' Ke
    split at hs
    case isFalse=>cases hs
    rename_i jN
    cases hs
    obtain ⟨xs,n',hn,_,hl,Q5,hf⟩:=DataW.trod_array ht h
    have hn:n=n':=by omega
    subst hn
    refine Gr (uR n m) Ke jN.1 k cs (by rw [hl,jN.2]) fun i hi=>?_
    exact ⟨xs[i]'(by omega),by rw [hf i hi,List.getElem?_eq_getElem (by omega)]⟩
  · cases hs
end
open Go Go.ChangeShapes Go.WideShapes Go.ChangeAt Go.RowKit
def DN (I:zZ):Env:=⟨I,fun _=>⟨0,0,0⟩,0,0⟩
theorem Pk {P:Program} {f:Nat} {args:List V} {vs:Array Value} {I:zZ} (h:aE P f args CH (fun r _=>r=.b true)) (W:World) (hI:∀ b o x,I b o=some x->bF W b o=some x) (hv:dY (DN I) args vs):
 Calls P f vs W fun e w'=>e=.returned (.bool true)/\Below W.heap.size W w':=by
 have hs:bQ (DN I) (gH CH) W:=⟨rfl,rfl,fun k hk=>absurd hk cJ,hI,fun k o hk=>absurd ⟨o,hk⟩ cJ,fun k k' hk=>absurd hk cJ,fun k hk=>absurd hk cJ⟩
 refine (h.2 (DN I) W vs rfl hs hv).mono ?_
 rintro e w' ⟨v,x,h',E',rfl,rfl,hn,lB,he,hr⟩
 have hx:x=.bool true:=by
  cases hr with
  |deep hd=>cases hd;rfl
 subst hx
 exact ⟨rfl,he.os,he.tape,he.out,he.size,fun k hk=>he.same k hk fun k0 Ru=>absurd Ru cJ⟩
abbrev uS:=Bool×List Sh
def V6 (P:Program) (t:TypeId):Option uS:=
 match P.underlying t with
 |some (.struct _)=>(AH P 40 t).map fun r=>(true,r)
 |some (.array _ _)=>(AH P 40 t).map fun r=>(true,r)
 |_=>(AH P 40 t).map fun r=>(false,r)
def DO (P:Program):List TypeId->Option (List uS)
 |[]=>some []
 |t::r=>match V6 P t,DO P r with
  |some a,some b=>some (a::b)
  |_,_=>none
def uS.Is:uS->V->Prop
 |(true,r),v=>∃ row,v=.agg row/\Sh.yD r row
 |(false,r),v=>Sh.yD r [v]
def Bl:List uS->List V->Prop
 |[],[]=>True
 |a::r,v::q=>a.Is v/\Bl r q
 |_,_=>False
theorem eH.ayG {I:zZ} {v:V} {x:Value} (h:eH I v x):x.oneCell'=true:=by cases h<;>rfl
section
variable {H:Type} {enc:TypeId×Value->H} {P:Program} {W:World}
theorem aj3 {t:TypeId} {v:Value} {d:DataW H} {p:List MemPlace} {base:Nat} (h:DataW.Trod enc P W 0 (fun _=>true) true t v d p) (Eu:Value.okWide P W .any base t v) {a:uS} (hs:V6 P t=some a):
 ∃ x:V,a.Is x/\Rel (DN (bF W)) x v:=by
 obtain ⟨fuel,h⟩:=h
 have agg:∀ cs,v=.agg cs->∀ r,AH P 40 t=some r->a=(true,r)->∃ x:V,a.Is x/\Rel (DN (bF W)) x v:=by
  rintro cs rfl r hr rfl
  obtain ⟨row,h1,h2⟩:=uR _ _ _ _ _ _ h hr
  refine ⟨.agg row,⟨row,rfl,h1⟩,.agg _ _ (by have:=h2.1;simpa [Value.cells] using this.symm) (fun j x hx=>?_) (fun j u x hj hx=>.deep (h2.2 j u x hj (by simpa [Value.cells] using hx)))⟩
  have dZ:j<row.length:=by
   have h3:=h2.1
   simp only [Value.cells,Array.length_toList] at h3
   have:=(Array.getElem?_eq_some_iff.1 hx).1
   omega
  exact (h2.2 j row[j] x (List.getElem?_eq_getElem dZ) (by simpa [Value.cells] using hx)).ayG
 have one:v.cells=#[v]->∀ r,AH P 40 t=some r->a=(false,r)->∃ x:V,a.Is x/\Rel (DN (bF W)) x v:=by
  rintro hc r hr rfl
  obtain ⟨row,h1,h2⟩:=uR _ _ _ _ _ _ h hr
  have hl:=h2.1
  rw [hc] at hl h2
  match row,hl,h1,h2 with
  |[x],_,h1,h2=>exact ⟨x,h1,.deep (h2.2 0 x v rfl rfl)⟩
 unfold V6 at hs
 split at hs
 · rename_i fs ht
   obtain ⟨r,hr,rfl⟩:=Option.map_eq_some_iff.1 hs
   obtain ⟨cs,rfl,_⟩:=okWide_struct ht Eu
   exact agg cs rfl r hr rfl
 · rename_i n e ht
   obtain ⟨r,hr,rfl⟩:=Option.map_eq_some_iff.1 hs
   have:∃ cs,v=.agg cs:=by
    unfold Value.okWide at Eu
    rw [ht] at Eu
    obtain ⟨cs,h,_⟩:=Eu
    exact ⟨cs,h⟩
   obtain ⟨cs,rfl⟩:=this
   exact agg cs rfl r hr rfl
 · rename_i hn1 hn2
   obtain ⟨r,hr,rfl⟩:=Option.map_eq_some_iff.1 hs
   refine one ?_ r hr rfl
   have Ke:=hr
   obtain ⟨m,hm⟩:∃ m,40=m+1:=⟨39,rfl⟩
   rw [hm] at Ke
   simp only [AH] at Ke
   split at Ke
   · rename_i ht;obtain ⟨b,rfl⟩:=okWide_bool ht Eu;rfl
   · rename_i k ht;obtain ⟨n,rfl⟩:=okWide_int ht Eu;rfl
   · rename_i ht;obtain ⟨s,rfl⟩:=okWide_string ht Eu;rfl
   · rename_i e ht;obtain ⟨p,l,c,rfl⟩:=okWide_slice ht Eu;rfl
   · rename_i fs ht;exact absurd ht (hn1 fs)
   · rename_i n e ht;exact absurd ht (hn2 n e)
   · cases Ke
theorem Qw {base:Nat}:∀ {ts:List TypeId} {vs:List Value} {ds:List (DataW H)} {p:List MemPlace} {aEo:List uS},DataW.TrodAll enc P W 0 (fun _=>true) true ts vs ds p->
 (∀ (j:Nat) t v,ts[j]? =some t->vs[j]? =some v->Value.okWide P W .any base t v)->DO P ts=some aEo->ds.length=ts.length/\vs.length=ts.length/\∃ args,Bl aEo args/\dY (DN (bF W)) args vs.toArray
 |[],[],[],p,aEo,h,Eu,hs=>by
  simp only [DO,Option.some.injEq] at hs
  subst hs
  exact ⟨rfl,rfl,[],trivial,rfl,fun j v x hj=>by simp at hj⟩
 |t::ts,v::vs,d::ds,p,aEo,h,Eu,hs=>by
  obtain ⟨p1,q,h1,h2,rfl⟩:=h
  simp only [DO] at hs
  split at hs
  case h_2=>cases hs
  rename_i a b ha hb
  cases hs
  obtain ⟨x,x1,x2⟩:=aj3 h1 (Eu 0 t v rfl rfl) ha
  obtain ⟨l1,l2,xs,y1,y2⟩:=Qw h2 (fun j t v hj hv=>Eu (j+1) t v (by simpa using hj) (by simpa using hv)) hb
  refine ⟨by simp [l1],by simp [l2],x::xs,⟨x1,y1⟩,by have:=y2.1;simpa using this,fun j u y hj hy=>?_⟩
  cases j with
  |zero=>simp at hj hy;subst hj;subst hy;exact x2
  |succ j=>exact y2.2 j u y (by simpa using hj) (by simpa using hy)
 |[],[],_::_,_,_,h,_,_=>h.elim
 |[],_::_,[],_,_,h,_,_=>h.elim
 |[],_::_,_::_,_,_,h,_,_=>h.elim
 |_::_,[],[],_,_,h,_,_=>h.elim
 |_::_,[],_::_,_,_,h,_,_=>h.elim
 |_::_,_::_,[],_,_,h,_,_=>h.elim
theorem Lp (hl:laidOutB P=true) {W':World} {sp':Nat->Bool}:∀ {ts:List TypeId} {vs:List Value} {ds:List (DataW H)} {p:List MemPlace},(∀ t∈ts,P.readableRec t=true/\t<P.types.size)->
 DataW.TrodAll enc P W 0 (fun _=>true) true ts vs ds p->(∀ x∈p,W.sameAt W' x)->(∀ x∈p,sp' x.block=true)->DataW.TrodAll enc P W' 0 sp' true ts vs ds p
 |[],[],[],p,_,h,_,_=>h
 |t::ts,v::vs,d::ds,p,hr,h,h1,h2=>by
  obtain ⟨p1,q,a1,a2,rfl⟩:=h
  exact ⟨p1,q,WideElems.Trod_stays hl (hr t (by simp)).1 (hr t (by simp)).2 a1 (fun x hx=>h1 x (by simp [hx])) (fun x hx=>h2 x (by simp [hx])),
   Lp hl (fun t ht=>hr t (by simp [ht])) a2 (fun x hx=>h1 x (by simp [hx])) (fun x hx=>h2 x (by simp [hx])),rfl⟩
 |[],[],_::_,_,_,h,_,_=>h.elim
 |[],_::_,[],_,_,h,_,_=>h.elim
 |[],_::_,_::_,_,_,h,_,_=>h.elim
 |_::_,[],[],_,_,h,_,_=>h.elim
 |_::_,[],_::_,_,_,h,_,_=>h.elim
 |_::_,_::_,[],_,_,h,_,_=>h.elim
theorem EX {f:Func} {s:ChangeSpec} {apart fresh handsOn again:Bool} {W W':World} {args:Array Value} {v:Value} {ds gs:List (DataW H)} {before pa pv:List MemPlace}
 (hW:DataW.Whole enc P f.params.toList s.vars apart W args.toList ds gs before)
 (V7:∀ (b:Nat) (sp:Nat->Bool) (hd:Bool),DataW.TrodAll enc P W' b sp hd f.resultTypes.toList (v.resultList f.resultTypes.size) (s.fn H (ds++gs)).results [])
 (ah6:∀ sp:Nat->Bool,(∀ p∈before,sp p.block=true)->DataW.TrodAll enc P W' 0 sp true f.params.toList args.toList (s.fn H (ds++gs)).args pa)
 (ah7:∀ sp:Nat->Bool,(∀ p∈before,sp p.block=true)->DataW.TrodVars enc P W' sp s.vars (s.fn H (ds++gs)).vars pv)
 (hps:before=pa++pv) (hb:Below W.heap.size W W')
 (Eu:∀ (j:Nat) (t:TypeId) (r:Value),f.resultTypes[j]? =some t->(v.resultList f.resultTypes.size)[j]? =some r->Value.okWide P W' .any 0 t r):
 s.post enc P f apart fresh handsOn again W args v W':=by
 have hold:∀ p∈before,(fun b=>decide (b<W.heap.size)) p.block=true:=fun p hp=>by simpa using hW.lt p hp
 have hk:W.keptBut W' (·∈before):=by
  refine ⟨hb.os,hb.output,fun i hi=>?_⟩
  rw [hb.block i hi]
  cases hq:W.heap[i]? with
  |none=>rfl
  |some o=>cases o<;>simp
 refine ⟨ds,gs,before,[],pa,pv,hW,V7 _ _ _,ah6 _ hold,ah7 _ hold,World.keptBut_mono (fun p hp=>⟨hp,?_⟩) hk,fun _=>?_⟩
 · rw [hps,List.mem_append] at hp
   exact Or.inr hp
 · have dZ:=hW.lt
   obtain ⟨_,_,_,_,_,hz,hn⟩:=hW
   refine ⟨Eu,_,_,([]++pa)++pv,⟨[]++pa,pv,trodAll_append (ah6 _ (fun _ _=>rfl)) (V7 _ _ _),ah7 _ (fun _ _=>rfl),rfl,?_,?_⟩,?_⟩
   · intro b off hp
     have hp':MemPlace.cell b off∈before:=by rw [hps];simpa using hp
     have:=hz b off hp'
     have hbl:=dZ _ hp'
     simp only [World.frozen?] at this ⊢
     rw [hb.block b hbl]
     exact this
   · intro ha
     have:=hn ha
     rw [hps] at this
     simpa using this
   · intro p hp _
     rw [hps]
     simpa using hp
theorem law_lifted {C:Checked} {os:Os} {f:FuncId} {fn:Func} {s:ChangeSpec} {conds:List PathCond} {tb:TypeId} {shs:List uS} (own:ownKnob C.prog.godebug=none) (started:os.Started) (aj4:C.prog.inits.idxOf? f=none) (U7:C.prog.funcs[f]? =some fn)
 (witness:∃ (w:World) (tape:Tape) (i:Input),w.os=os/\(w.forCall tape i).Shaped C.prog/\i.vars=[]/\Input.okWide C.prog (w.forCall tape i) .any w.heap.size f i/\
   s.pre6 enc C.prog fn conds false (w.forCall tape i).memory i.args/\({}:Assume).holds C.prog (lone (Frame.enter C.prog f i.args .normal) [] (w.forCall tape i)))
 (hl:laidOutB C.prog=true) (hr:fn.params.toList.all (fun t=>C.prog.readableRec t&&decide (t<C.prog.types.size))=true) (hv:s.vars=[]) (rE:DO C.prog fn.params.toList=some shs)
 (V7:fn.resultTypes=#[tb]) (hb:C.prog.underlying tb=some .bool)
 (apC:∀ ds:List (DataW H),ds.length=fn.params.toList.length->s.fn H ds={ results:=[.lit (.bool true)],args:=ds })
 (h:∀ args,Bl shs args->aE C.prog f args CH (fun r _=>r=.b true)):
 ReturnsInHanded {} C os f .any (s.pre6 enc C.prog fn conds false) (s.post enc C.prog fn false true false false):=by
 refine returnsInHanded_of_change own started aj4 U7 witness ?_
 intro W base args ds gs before ayH hW _ _
 have hW':=hW
 obtain ⟨p,q,hA,hV,rfl,Oh,hnd⟩:=hW
 rw [hv] at hV
 obtain ⟨rfl,rfl⟩:=trodVars_none hV
 obtain ⟨l1,l2,vs,a1,a2⟩:=Qw hA (fun j t v h1 h2=>ayH j t v (by simpa using h1) (by simpa using h2)) rE
 simp only [List.append_nil] at hW'
 have dZ:∀ x∈p,x.block<W.heap.size:=hW'.lt
 refine (Pk (h vs a1) W (fun b o x hx=>hx) (by simpa using a2)).mono ?_
 rintro e W' ⟨rfl,hbl⟩
 refine ⟨_,rfl,?_⟩
 have hsp:=apC ds l1
 have Ke:∀ t∈fn.params.toList,C.prog.readableRec t=true/\t<C.prog.types.size:=fun t ht=>by
  have:=List.all_eq_true.1 hr t ht
  simpa using this
 have apD:∀ sp':Nat->Bool,(∀ x∈p,sp' x.block=true)->DataW.TrodAll enc C.prog W' 0 sp' true fn.params.toList args.toList ds p:=fun sp' h2=>
  Lp hl Ke hA (fun x hx=>hbl.same (dZ x hx)) h2
 have Eu:∀ (j:Nat) (t:TypeId) (r:Value),fn.resultTypes[j]? =some t->((Value.bool true).resultList fn.resultTypes.size)[j]? =some r->Value.okWide C.prog W' .any 0 t r:=ok_one V7 rfl (okWide_bool_mk hb true)
 refine EX (pa:=p) (pv:=[]) hW' (fun b sp hd=>?_) (fun sp h2=>?_) (fun sp h2=>?_) (by simp) hbl Eu
 · rw [List.append_nil,hsp,V7]
   exact trodAll_mk1 (shut_bool hb true)
 · rw [List.append_nil,hsp]
   exact apD sp h2
 · rw [List.append_nil,hsp,hv]
   rfl
end
open Go
theorem afH {a:Sh} {e:List V} (h:Sh.yD [a] e):∃ v,e=[v]/\a.is v:=by
 cases e with
 |nil=>simp [Sh.yD] at h
 |cons v r=>
  cases r with
  |nil=>exact ⟨v,rfl,by simpa [Sh.yD] using h⟩
  |cons _ _=>simp [Sh.yD] at h
theorem afI {e:List V} (h:Sh.yD [.i .i64] e):∃ n,e=[.i .i64 n]/\-9223372036854775808<=n/\n<=9223372036854775807:=by
 obtain ⟨v,rfl,h2⟩:=afH h
 simp only [Sh.is] at h2
 obtain ⟨n,rfl,h1,h3⟩:=h2
 exact ⟨n,rfl,by simpa [IntKind.min,IntKind.bits,IntKind.signed] using h1,by simpa [IntKind.max,IntKind.bits,IntKind.signed] using h3⟩
theorem V8 {vs:List V} (h:Bl [] vs):vs=[]:=by
 cases vs with
 |nil=>rfl
 |cons _ _=>exact h.elim
theorem Gs {a:uS} {aEo:List uS} {vs:List V} (h:Bl (a::aEo) vs):∃ v q,vs=v::q/\a.Is v/\Bl aEo q:=by
 cases vs with
 |nil=>exact h.elim
 |cons v q=>exact ⟨v,q,rfl,h.1,h.2⟩
theorem Qx {v:V} (h:uS.Is (false,[.i .i64]) v):∃ n,v=.i .i64 n/\-9223372036854775808<=n/\n<=9223372036854775807:=by
 obtain ⟨n,h1,h2⟩:=afI h
 exact ⟨n,by simpa using h1,h2⟩
end Go.Eng
