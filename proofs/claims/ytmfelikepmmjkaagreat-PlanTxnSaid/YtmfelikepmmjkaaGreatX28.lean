/-
Arguments of plain data: what is read of them as abstract values.
-/
import Derived.Test.YtmfelikepmmjkaaGreatX12
import Derived.ProofKit
import Derived.OpenShut
import Derived.Deep.Slices
import Derived.Carry
import Derived.Test.YtmfelikepmmjkaaGreatX23
import Derived.Test.YtmfelikepmmjkaaGreatX21
set_option linter.unusedVariables false
set_option linter.unusedSimpArgs false
namespace Go.Eng
open Go
inductive Sh where
 |b
 |i (k:IntKind)
 |s
 |sl (row:List Sh)
mutual
def Sh.is:Sh->V->Prop
 |.b,v=>∃ x,v=.b x
 |.i k,v=>∃ n,v=.i k n/\k.min<=n/\n<=k.max
 |.s,v=>∃ l,v=.s l/\l.length<=9223372036854775807
 |.sl row,v=>∃ es,v=.sl none row.length es/\es.length<=9223372036854775807/\∀ e∈es,Sh.rP row e
def Sh.rP:List Sh->List V->Prop
 |[],[]=>True
 |a::r,v::q=>a.is v/\Sh.rP r q
 |_,_=>False
end
def wT (P:Program) (rec:TypeId->Option (List Sh)):List Field->List Sh->Option (List Sh)
 |[],acc=>some acc
 |f::r,acc=>match rec f.type with
  |some s=>if f.offset=acc.length/\s.length=P.cellsOf f.type then wT P rec r (acc++s) else none
  |none=>none
def DK (r:List Sh):Nat->List Sh
 |0=>[]
 |n+1=>r++DK r n
def Bg (P:Program):Nat->TypeId->Option (List Sh)
 |0,_=>none
 |m+1,t=>match P.underlying t with
  |some .bool=>some [.b]
  |some (.int k)=>some [.i k]
  |some .string=>some [.s]
  |some (.slice e)=>match Bg P m e with
   |some r=>if r.length=P.cellsOf e/\0<r.length then some [.sl r] else none
   |none=>none
  |some (.struct fs)=>match wT P (Bg P m) fs.toList [] with
   |some r=>if r.length=P.cellsOf t then some r else none
   |none=>none
  |some (.array n e)=>match Bg P m e with
   |some r=>if r.length=P.cellsOf e/\n*r.length=P.cellsOf t then some (DK r n) else none
   |none=>none
  |_=>none
theorem Ao:∀ {r:List Sh} {q:List V},Sh.rP r q->q.length=r.length
 |[],[],_=>rfl
 |[],_::_,h=>by simp [Sh.rP] at h
 |_::_,[],h=>by simp [Sh.rP] at h
 |_::r,_::q,h=>by simp only [Sh.rP] at h;simp [Ao h.2]
theorem Ap:∀ {r:List Sh} {q:List V} {r':List Sh} {q':List V},Sh.rP r q->Sh.rP r' q'->Sh.rP (r++r') (q++q')
 |[],[],_,_,_,h=>h
 |[],_::_,_,_,h,_=>by simp [Sh.rP] at h
 |_::_,[],_,_,h,_=>by simp [Sh.rP] at h
 |_::r,_::q,_,_,h,h'=>by simp only [Sh.rP,List.cons_append] at h ⊢;exact ⟨h.1,Ap h.2 h'⟩
def Gu (I:AH) (row:List V) (cs:List Value):Prop:=row.length=cs.length/\∀ (j:Nat) (v:V) (x:Value),row[j]? =some v->cs[j]? =some x->fF I v x
theorem Gu.append {I:AH} {r r':List V} {c c':List Value} (h:Gu I r c) (h':Gu I r' c'):Gu I (r++r') (c++c'):=by
 refine ⟨by simp [h.1,h'.1],fun j v x hj hx=>?_⟩
 rw [List.getElem?_append] at hj hx
 rw [<-h.1] at hx
 split at hj
 · rename_i cO
   rw [if_pos cO] at hx
   exact h.2 j v x hj hx
 · rename_i cO
   rw [if_neg cO] at hx
   exact h'.2 _ v x hj hx
theorem Gu.one {I:AH} {v:V} {x:Value} (h:fF I v x):Gu I [v] [x]:=⟨rfl,fun j v' x' hj hx=>by
 cases j with
 |zero=>simp at hj hx;subst hj;subst hx;exact h
 |succ j=>simp at hj⟩
theorem Tb {k:IntKind} {n:Int} (h:(Lit.int k n).wf=true):k.min<=n/\n<=k.max:=by
 simpa [Lit.wf,IntKind.has] using h
section
variable {H:Type} {enc:TypeId×Value->H} {P:Program} {W:World}
def I0 (P:Program) (W:World) (enc:TypeId×Value->H) (fuel m:Nat):Prop:=∀ (t:TypeId) (cs:List Value) (x:DataW H×List MemPlace) (r:List Sh),
 DataW.trod enc P W 0 (fun _=>true) true fuel t cs=some x->Bg P m t=some r->∃ row,Sh.rP r row/\Gu (bM W) row cs
theorem Fh {m n:Nat} (ih:I0 P W enc n m) {cs:List Value}:∀ (fs:List Field) (acc r:List Sh) (row:List V) ,wT P (Bg P m) fs acc=some r->Sh.rP acc row->Gu (bM W) row (cs.take acc.length)->acc.length<=cs.length->
 (∀ f∈fs,∃ x,DataW.trod enc P W 0 (fun _=>true) true n f.type ((cs.drop f.offset).take (P.cellsOf f.type))=some x)->r.length=cs.length->∃ XH,Sh.rP r XH/\Gu (bM W) XH cs
 |[],acc,r,row,h,h1,h2,h3,h4,h5=>by
  simp only [wT,Option.some.injEq] at h
  subst h
  rw [h5,List.take_length] at h2
  exact ⟨row,h1,h2⟩
 |f::fs,acc,r,row,h,h1,h2,h3,h4,h5=>by
  simp only [wT] at h
  split at h
  case h_2=>cases h
  rename_i s hs
  split at h
  case isFalse=>cases h
  rename_i hc
  obtain ⟨x,hx⟩:=h4 f (by simp)
  obtain ⟨Vt,g1,g2⟩:=ih _ _ _ _ hx hs
  have hl:Vt.length=s.length:=Ao g1
  have AA:=g2.1
  simp only [List.length_take,List.length_drop] at AA
  have e:cs.take (acc++s).length=cs.take acc.length++(cs.drop f.offset).take (P.cellsOf f.type):=by
   rw [List.length_append,List.take_add,hc.1,hc.2]
  refine Fh ih fs (acc++s) r (row++Vt) h (Ap h1 g1) ?_ ?_ (fun f hf=>h4 f (by simp [hf])) h5
  · rw [e];exact h2.append g2
  · rw [List.length_append];omega
theorem He {m n:Nat} {e:TypeId} {r:List Sh} (ih:I0 P W enc n m) (he:Bg P m e=some r) (hr:r.length=P.cellsOf e):∀ (k:Nat) (cs:List Value),cs.length=k*r.length->
 (∀ i,i<k->∃ x,DataW.trod enc P W 0 (fun _=>true) true n e ((cs.drop (i*P.cellsOf e)).take (P.cellsOf e))=some x)->∃ row,Sh.rP (DK r k) row/\Gu (bM W) row cs
 |0,cs,h1,_=>by
  have:cs=[]:=by simpa using h1
  subst this
  exact ⟨[],by simp [DK,Sh.rP],rfl,fun j v x hj=>by simp at hj⟩
 |k+1,cs,h1,h2=>by
  obtain ⟨x,hx⟩:=h2 0 (by omega)
  obtain ⟨aiG,a1,a2⟩:=ih _ _ _ _ hx he
  obtain ⟨Vt,b1,b2⟩:=He ih he hr k (cs.drop r.length) (by rw [List.length_drop,h1,Nat.add_mul];omega) (fun i hi=>by
   obtain ⟨y,hy⟩:=h2 (i+1) (by omega)
   refine ⟨y,?_⟩
   rw [List.drop_drop,hr,show P.cellsOf e+i*P.cellsOf e=(i+1)*P.cellsOf e by rw [Nat.add_mul];omega]
   exact hy)
  refine ⟨aiG++Vt,Ap a1 b1,?_⟩
  have:=a2.append b2
  rw [Nat.zero_mul,List.drop_zero,<-hr,List.take_append_drop] at this
  exact this
theorem wU:∀ (fuel m:Nat),I0 P W enc fuel m
 |0,_,t,cs,x,r,h,_=>by simp [DataW.trod] at h
 |_+1,0,t,cs,x,r,_,h=>by simp [Bg] at h
 |n+1,m+1,t,cs,x,r,h,hs=>by
  simp only [Bg] at hs
  split at hs
  · rename_i ht
    cases hs
    obtain ⟨b,rfl,_⟩:=DataW.trod_bool ht h
    exact ⟨[.b b],by simp [Sh.rP,Sh.is],.one (.b b)⟩
  · rename_i k ht
    cases hs
    obtain ⟨q,rfl,_,hw⟩:=DataW.trod_int ht h
    exact ⟨[.i k q],by simp [Sh.rP,Sh.is,Tb hw],.one (.i k q)⟩
  · rename_i ht
    cases hs
    obtain ⟨s,rfl,_,hw⟩:=DataW.trod_string ht h
    refine ⟨[.s s.data.toList],?_,.one (.s s.data.toList)⟩
    simp only [Sh.rP,Sh.is,and_true]
    refine ⟨_,rfl,?_⟩
    have:s.size<=2 ^ 63 - 1:=hw
    have e:s.data.toList.length=s.size:=by simp
    omega
  · rename_i e ht
    split at hs
    case h_2=>cases hs
    rename_i r' Dt
    split at hs
    case isFalse=>cases hs
    rename_i lI
    cases hs
    rcases Go.Deep.open_slice ht h with ⟨rfl,_⟩|⟨a,len,cap,q,n',D,Pl,rfl,_,QB,Yx,hq,_,nQ⟩
    · exact ⟨[.sl none r'.length []],by simp [Sh.rP,Sh.is],.one (.nW _)⟩
    · obtain ⟨lI,H5⟩:=lI
      have U0:q=cap:=by simpa using hq
      subst U0
      have hm:q<=2 ^ 63 - 1:=Yx
      obtain ⟨bS,off,spot⟩:=a
      by_cases hq0:q=0
      · subst hq0
        obtain rfl:len=0:=by omega
        exact ⟨[.sl none r'.length []],by simp [Sh.rP,Sh.is],.one (.Dr _ _)⟩
      · have acU:spot=none:=by
         obtain ⟨OZ,hc,_⟩:=nQ 0 (by omega)
         obtain ⟨_,hl,pG⟩:=World.cells?_some hc
         have:=pG 0 (by omega)
         rw [Nat.zero_mul,List.getElem?_eq_getElem (by omega)] at this
         simp only [Addr.add,if_true,World.cell?] at this
         split at this
         · split at this
           · cases this
           · rename_i hs;simpa using hs
         · cases this
        subst acU
        obtain ⟨f,hf⟩:=Go.Deep.choose_lt (α:=List V) (n:=len) (p:=fun i row=>Sh.rP r' row/\∀ (j:Nat) (v:V),row[j]? =some v->∃ y,bM W bS (off+(i*r'.length+j))=some y/\fF (bM W) v y) (fun i hi=>by
         obtain ⟨OZ,hc,ht'⟩:=nQ i (by omega)
         obtain ⟨row,g1,g2⟩:=wU n' m _ _ _ _ ht' Dt
         refine ⟨row,g1,fun j v hj=>?_⟩
         obtain ⟨_,hl,pG⟩:=World.cells?_some hc
         have H6:j<OZ.length:=by
          have:=(List.getElem?_eq_some_iff.1 hj).1
          rw [g2.1] at this;exact this
         have h1:=pG j (by omega)
         rw [List.getElem?_eq_getElem H6,Addr.add_lit,Addr.add_lit,lY,<-lI] at h1
         exact ⟨OZ[j],by rw [<-Nat.add_assoc];exact h1,g2.2 j v _ hj (List.getElem?_eq_getElem H6)⟩)
        have hlen:((List.range len).map f).length=len:=by simp
        have acV:∀ e∈(List.range len).map f,Sh.rP r' e:=by
         intro e he
         obtain ⟨i,hi,rfl⟩:=List.mem_map.1 he
         exact (hf i (by simpa using hi)).1
        have Yy:∀ e∈(List.range len).map f,e.length=r'.length:=fun e he=>Ao (acV e he)
        have key:∀ J d,((List.range len).map f).flatten[J]? =some d->∃ y,bM W bS (off+J)=some y/\fF (bM W) d y:=by
         intro J d hJ
         have hJl:J<len*r'.length:=by
          have:=(List.getElem?_eq_some_iff.1 hJ).1
          rwa [dA Yy,hlen] at this
         have hi:J/r'.length<len:=Nat.div_lt_of_lt_mul (by rwa [Nat.mul_comm] at hJl)
         have hj:J%r'.length<r'.length:=Nat.mod_lt _ H5
         have e1:J/r'.length*r'.length+J%r'.length=J:=by rw [Nat.mul_comm];exact Nat.div_add_mod _ _
         have h2:=pZ Yy (ix:=J/r'.length) (j:=J%r'.length) (e:=f (J/r'.length)) (by simp [hi]) hj
         rw [e1,hJ] at h2
         have:=(hf _ hi).2 _ _ h2.symm
         rwa [e1] at this
        refine ⟨[.sl none r'.length ((List.range len).map f)],?_,.one ?_⟩
        · simp only [Sh.rP,Sh.is,and_true]
          exact ⟨_,rfl,by rw [hlen];omega,acV⟩
        · have:=fF.sl (I:=bM W) r'.length ((List.range len).map f) bS off q (fun J=>(bM W bS (off+J)).getD default) (by rw [hlen];exact QB) Yy (fun J d hJ=>by
           obtain ⟨y,hy,_⟩:=key J d hJ
           rw [hy];rfl) (fun J d hJ=>by
           obtain ⟨y,hy,hr⟩:=key J d hJ
           rw [hy];exact hr)
          rw [hlen] at this
          exact this
  · rename_i fs ht
    split at hs
    case h_2=>cases hs
    rename_i r' Dt
    split at hs
    case isFalse=>cases hs
    rename_i lI
    cases hs
    obtain ⟨xs,n',hn,_,hl,L7,hf⟩:=DataW.trod_struct ht h
    have hn:n=n':=by omega
    subst hn
    refine Fh (wU n m) fs.toList [] _ [] Dt trivial ⟨by simp,fun j v x hj=>by simp at hj⟩ (Nat.zero_le _) (fun f We=>?_) (by rw [lI,hl])
    obtain ⟨i,hi⟩:=List.getElem?_of_mem We
    have cZ:fs[i]? =some f:=by simpa using hi
    have cO:i<xs.length:=by
     rw [L7]
     have:=(Array.getElem?_eq_some_iff.1 cZ).1
     exact this
    exact ⟨xs[i],by rw [hf i f cZ,List.getElem?_eq_getElem cO]⟩
  · rename_i k e ht
    split at hs
    case h_2=>cases hs
    rename_i r' Dt
    split at hs
    case isFalse=>cases hs
    rename_i lI
    cases hs
    obtain ⟨xs,n',hn,_,hl,L7,hf⟩:=DataW.trod_array ht h
    have hn:n=n':=by omega
    subst hn
    refine He (wU n m) Dt lI.1 k cs (by rw [hl,lI.2]) fun i hi=>?_
    exact ⟨xs[i]'(by omega),by rw [hf i hi,List.getElem?_eq_getElem (by omega)]⟩
  · cases hs
end
open Go Go.ChangeShapes Go.WideShapes Go.ChangeAt Go.RowKit
def Fi (I:AH):Env:=⟨I,fun _=>⟨0,0,0⟩,0,0⟩
theorem MY {P:Program} {f:Nat} {args:List V} {vs:Array Value} {I:AH} (h:aC P f args iJ (fun r _=>r=.b true)) (W:World) (hI:∀ b o x,I b o=some x->bM W b o=some x) (hv:eT (Fi I) args vs):
 Calls P f vs W fun e w'=>e=.returned (.bool true)/\Below W.heap.size W w':=by
 have hs:cH (Fi I) (dP iJ) W:=⟨rfl,rfl,fun k hk=>absurd hk cI,hI,fun k o hk=>absurd ⟨o,hk⟩ cI,fun k k' hk=>absurd hk cI,fun k hk=>absurd hk cI⟩
 refine (h.2 (Fi I) W vs rfl hs hv).mono ?_
 rintro e w' ⟨v,x,h',E',rfl,rfl,hn,Ay,he,hr⟩
 have hx:x=.bool true:=by
  cases hr with
  |deep hd=>cases hd;rfl
 subst hx
 exact ⟨rfl,he.os,he.tape,he.out,he.size,fun k hk=>he.same k hk fun k0 Pm=>absurd Pm cI⟩
abbrev rQ:=Bool×List Sh
def Tc (P:Program) (t:TypeId):Option rQ:=
 match P.underlying t with
 |some (.struct _)=>(Bg P 40 t).map fun r=>(true,r)
 |some (.array _ _)=>(Bg P 40 t).map fun r=>(true,r)
 |_=>(Bg P 40 t).map fun r=>(false,r)
def Fj (P:Program):List TypeId->Option (List rQ)
 |[]=>some []
 |t::r=>match Tc P t,Fj P r with
  |some a,some b=>some (a::b)
  |_,_=>none
def rQ.Is:rQ->V->Prop
 |(true,r),v=>∃ row,v=.agg row/\Sh.rP r row
 |(false,r),v=>Sh.rP r [v]
def Cm:List rQ->List V->Prop
 |[],[]=>True
 |a::r,v::q=>a.Is v/\Cm r q
 |_,_=>False
theorem fF.aiH {I:AH} {v:V} {x:Value} (h:fF I v x):x.oneCell'=true:=by cases h<;>rfl
section
variable {H:Type} {enc:TypeId×Value->H} {P:Program} {W:World}
theorem Yz {t:TypeId} {v:Value} {d:DataW H} {p:List MemPlace} {base:Nat} (h:DataW.Trod enc P W 0 (fun _=>true) true t v d p) (dW:Value.okWide P W .any base t v) {a:rQ} (hs:Tc P t=some a):
 ∃ x:V,a.Is x/\Rel (Fi (bM W)) x v:=by
 obtain ⟨fuel,h⟩:=h
 have agg:∀ cs,v=.agg cs->∀ r,Bg P 40 t=some r->a=(true,r)->∃ x:V,a.Is x/\Rel (Fi (bM W)) x v:=by
  rintro cs rfl r hr rfl
  obtain ⟨row,h1,h2⟩:=wU _ _ _ _ _ _ h hr
  refine ⟨.agg row,⟨row,rfl,h1⟩,.agg _ _ (by have:=h2.1;simpa [Value.cells] using this.symm) (fun j x hx=>?_) (fun j u x hj hx=>.deep (h2.2 j u x hj (by simpa [Value.cells] using hx)))⟩
  have cO:j<row.length:=by
   have h3:=h2.1
   simp only [Value.cells,Array.length_toList] at h3
   have:=(Array.getElem?_eq_some_iff.1 hx).1
   omega
  exact (h2.2 j row[j] x (List.getElem?_eq_getElem cO) (by simpa [Value.cells] using hx)).aiH
 have one:v.cells=#[v]->∀ r,Bg P 40 t=some r->a=(false,r)->∃ x:V,a.Is x/\Rel (Fi (bM W)) x v:=by
  rintro hc r hr rfl
  obtain ⟨row,h1,h2⟩:=wU _ _ _ _ _ _ h hr
  have hl:=h2.1
  rw [hc] at hl h2
  match row,hl,h1,h2 with
  |[x],_,h1,h2=>exact ⟨x,h1,.deep (h2.2 0 x v rfl rfl)⟩
 unfold Tc at hs
 split at hs
 · rename_i fs ht
   obtain ⟨r,hr,rfl⟩:=Option.map_eq_some_iff.1 hs
   obtain ⟨cs,rfl,_⟩:=okWide_struct ht dW
   exact agg cs rfl r hr rfl
 · rename_i n e ht
   obtain ⟨r,hr,rfl⟩:=Option.map_eq_some_iff.1 hs
   have:∃ cs,v=.agg cs:=by
    unfold Value.okWide at dW
    rw [ht] at dW
    obtain ⟨cs,h,_⟩:=dW
    exact ⟨cs,h⟩
   obtain ⟨cs,rfl⟩:=this
   exact agg cs rfl r hr rfl
 · rename_i PN Hf
   obtain ⟨r,hr,rfl⟩:=Option.map_eq_some_iff.1 hs
   refine one ?_ r hr rfl
   have Dt:=hr
   obtain ⟨m,hm⟩:∃ m,40=m+1:=⟨39,rfl⟩
   rw [hm] at Dt
   simp only [Bg] at Dt
   split at Dt
   · rename_i ht;obtain ⟨b,rfl⟩:=okWide_bool ht dW;rfl
   · rename_i k ht;obtain ⟨n,rfl⟩:=okWide_int ht dW;rfl
   · rename_i ht;obtain ⟨s,rfl⟩:=okWide_string ht dW;rfl
   · rename_i e ht;obtain ⟨p,l,c,rfl⟩:=okWide_slice ht dW;rfl
   · rename_i fs ht;exact absurd ht (PN fs)
   · rename_i n e ht;exact absurd ht (Hf n e)
   · cases Dt
theorem Og {base:Nat}:∀ {ts:List TypeId} {vs:List Value} {ds:List (DataW H)} {p:List MemPlace} {asV:List rQ},DataW.TrodAll enc P W 0 (fun _=>true) true ts vs ds p->
 (∀ (j:Nat) t v,ts[j]? =some t->vs[j]? =some v->Value.okWide P W .any base t v)->Fj P ts=some asV->ds.length=ts.length/\vs.length=ts.length/\∃ args,Cm asV args/\eT (Fi (bM W)) args vs.toArray
 |[],[],[],p,asV,h,dW,hs=>by
  simp only [Fj,Option.some.injEq] at hs
  subst hs
  exact ⟨rfl,rfl,[],trivial,rfl,fun j v x hj=>by simp at hj⟩
 |t::ts,v::vs,d::ds,p,asV,h,dW,hs=>by
  obtain ⟨p1,q,h1,h2,rfl⟩:=h
  simp only [Fj] at hs
  split at hs
  case h_2=>cases hs
  rename_i a b ha hb
  cases hs
  obtain ⟨x,x1,x2⟩:=Yz h1 (dW 0 t v rfl rfl) ha
  obtain ⟨l1,l2,xs,y1,y2⟩:=Og h2 (fun j t v hj hv=>dW (j+1) t v (by simpa using hj) (by simpa using hv)) hb
  refine ⟨by simp [l1],by simp [l2],x::xs,⟨x1,y1⟩,by have:=y2.1;simpa using this,fun j u y hj hy=>?_⟩
  cases j with
  |zero=>simp at hj hy;subst hj;subst hy;exact x2
  |succ j=>exact y2.2 j u y (by simpa using hj) (by simpa using hy)
 |[],[],_::_,_,_,h,_,_=>h.elim
 |[],_::_,[],_,_,h,_,_=>h.elim
 |[],_::_,_::_,_,_,h,_,_=>h.elim
 |_::_,[],[],_,_,h,_,_=>h.elim
 |_::_,[],_::_,_,_,h,_,_=>h.elim
 |_::_,_::_,[],_,_,h,_,_=>h.elim
theorem KL (hl:laidOutB P=true) {W':World} {ZL:Nat->Bool}:∀ {ts:List TypeId} {vs:List Value} {ds:List (DataW H)} {p:List MemPlace},(∀ t∈ts,P.readableRec t=true/\t<P.types.size)->
 DataW.TrodAll enc P W 0 (fun _=>true) true ts vs ds p->(∀ x∈p,W.sameAt W' x)->(∀ x∈p,ZL x.block=true)->DataW.TrodAll enc P W' 0 ZL true ts vs ds p
 |[],[],[],p,_,h,_,_=>h
 |t::ts,v::vs,d::ds,p,hr,h,h1,h2=>by
  obtain ⟨p1,q,a1,a2,rfl⟩:=h
  exact ⟨p1,q,WideElems.Trod_stays hl (hr t (by simp)).1 (hr t (by simp)).2 a1 (fun x hx=>h1 x (by simp [hx])) (fun x hx=>h2 x (by simp [hx])),
   KL hl (fun t ht=>hr t (by simp [ht])) a2 (fun x hx=>h1 x (by simp [hx])) (fun x hx=>h2 x (by simp [hx])),rfl⟩
 |[],[],_::_,_,_,h,_,_=>h.elim
 |[],_::_,[],_,_,h,_,_=>h.elim
 |[],_::_,_::_,_,_,h,_,_=>h.elim
 |_::_,[],[],_,_,h,_,_=>h.elim
 |_::_,[],_::_,_,_,h,_,_=>h.elim
 |_::_,_::_,[],_,_,h,_,_=>h.elim
theorem Gv {f:Func} {s:ChangeSpec} {apart fresh handsOn again:Bool} {W W':World} {args:Array Value} {v:Value} {ds gs:List (DataW H)} {before pa pv:List MemPlace}
 (hW:DataW.Whole enc P f.params.toList s.vars apart W args.toList ds gs before)
 (Dg:∀ (b:Nat) (sp:Nat->Bool) (hd:Bool),DataW.TrodAll enc P W' b sp hd f.resultTypes.toList (v.resultList f.resultTypes.size) (s.fn H (ds++gs)).results [])
 (WT:∀ sp:Nat->Bool,(∀ p∈before,sp p.block=true)->DataW.TrodAll enc P W' 0 sp true f.params.toList args.toList (s.fn H (ds++gs)).args pa)
 (WU:∀ sp:Nat->Bool,(∀ p∈before,sp p.block=true)->DataW.TrodVars enc P W' sp s.vars (s.fn H (ds++gs)).vars pv)
 (Wq:before=pa++pv) (hb:Below W.heap.size W W')
 (dW:∀ (j:Nat) (t:TypeId) (r:Value),f.resultTypes[j]? =some t->(v.resultList f.resultTypes.size)[j]? =some r->Value.okWide P W' .any 0 t r):
 s.post enc P f apart fresh handsOn again W args v W':=by
 have hold:∀ p∈before,(fun b=>decide (b<W.heap.size)) p.block=true:=fun p hp=>by simpa using hW.lt p hp
 have hk:W.keptBut W' (·∈before):=by
  refine ⟨hb.os,hb.output,fun i hi=>?_⟩
  rw [hb.block i hi]
  cases hq:W.heap[i]? with
  |none=>rfl
  |some o=>cases o<;>simp
 refine ⟨ds,gs,before,[],pa,pv,hW,Dg _ _ _,WT _ hold,WU _ hold,World.keptBut_mono (fun p hp=>⟨hp,?_⟩) hk,fun _=>?_⟩
 · rw [Wq,List.mem_append] at hp
   exact Or.inr hp
 · have cO:=hW.lt
   obtain ⟨_,_,_,_,_,hz,hn⟩:=hW
   refine ⟨dW,_,_,([]++pa)++pv,⟨[]++pa,pv,trodAll_append (WT _ (fun _ _=>rfl)) (Dg _ _ _),WU _ (fun _ _=>rfl),rfl,?_,?_⟩,?_⟩
   · intro b off hp
     have U1:MemPlace.cell b off∈before:=by rw [Wq];simpa using hp
     have:=hz b off U1
     have UD:=cO _ U1
     simp only [World.frozen?] at this ⊢
     rw [hb.block b UD]
     exact this
   · intro ha
     have:=hn ha
     rw [Wq] at this
     simpa using this
   · intro p hp _
     rw [Wq]
     simpa using hp
theorem law_lifted {C:Checked} {os:Os} {f:FuncId} {fn:Func} {s:ChangeSpec} {conds:List PathCond} {tb:TypeId} {shs:List rQ} (own:ownKnob C.prog.godebug=none) (started:os.Started) (YA:C.prog.inits.idxOf? f=none) (F7:C.prog.funcs[f]? =some fn)
 (witness:∃ (w:World) (tape:Tape) (i:Input),w.os=os/\(w.forCall tape i).Shaped C.prog/\i.vars=[]/\Input.okWide C.prog (w.forCall tape i) .any w.heap.size f i/\
   s.pre6 enc C.prog fn conds false (w.forCall tape i).memory i.args/\({}:Assume).holds C.prog (lone (Frame.enter C.prog f i.args .normal) [] (w.forCall tape i)))
 (hl:laidOutB C.prog=true) (hr:fn.params.toList.all (fun t=>C.prog.readableRec t&&decide (t<C.prog.types.size))=true) (hv:s.vars=[]) (sS:Fj C.prog fn.params.toList=some shs)
 (Dg:fn.resultTypes=#[tb]) (hb:C.prog.underlying tb=some .bool)
 (Td:∀ ds:List (DataW H),ds.length=fn.params.toList.length->s.fn H ds={ results:=[.lit (.bool true)],args:=ds })
 (h:∀ args,Cm shs args->aC C.prog f args iJ (fun r _=>r=.b true)):
 ReturnsInHanded {} C os f .any (s.pre6 enc C.prog fn conds false) (s.post enc C.prog fn false true false false):=by
 refine returnsInHanded_of_change own started YA F7 witness ?_
 intro W base args ds gs before aiI hW _ _
 have hW':=hW
 obtain ⟨p,q,hA,hV,rfl,Lv,QD⟩:=hW
 rw [hv] at hV
 obtain ⟨rfl,rfl⟩:=trodVars_none hV
 obtain ⟨l1,l2,vs,a1,a2⟩:=Og hA (fun j t v h1 h2=>aiI j t v (by simpa using h1) (by simpa using h2)) sS
 simp only [List.append_nil] at hW'
 have cO:∀ x∈p,x.block<W.heap.size:=hW'.lt
 refine (MY (h vs a1) W (fun b o x hx=>hx) (by simpa using a2)).mono ?_
 rintro e W' ⟨rfl,UD⟩
 refine ⟨_,rfl,?_⟩
 have WV:=Td ds l1
 have Dt:∀ t∈fn.params.toList,C.prog.readableRec t=true/\t<C.prog.types.size:=fun t ht=>by
  have:=List.all_eq_true.1 hr t ht
  simpa using this
 have acW:∀ ZL:Nat->Bool,(∀ x∈p,ZL x.block=true)->DataW.TrodAll enc C.prog W' 0 ZL true fn.params.toList args.toList ds p:=fun ZL h2=>
  KL hl Dt hA (fun x hx=>UD.same (cO x hx)) h2
 have dW:∀ (j:Nat) (t:TypeId) (r:Value),fn.resultTypes[j]? =some t->((Value.bool true).resultList fn.resultTypes.size)[j]? =some r->Value.okWide C.prog W' .any 0 t r:=ok_one Dg rfl (okWide_bool_mk hb true)
 refine Gv (pa:=p) (pv:=[]) hW' (fun b sp hd=>?_) (fun sp h2=>?_) (fun sp h2=>?_) (by simp) UD dW
 · rw [List.append_nil,WV,Dg]
   exact trodAll_mk1 (shut_bool hb true)
 · rw [List.append_nil,WV]
   exact acW sp h2
 · rw [List.append_nil,WV,hv]
   rfl
end
open Go
theorem Te {vs:List V} (h:Cm [] vs):vs=[]:=by
 cases vs with
 |nil=>rfl
 |cons _ _=>exact h.elim
theorem Cn {a:rQ} {asV:List rQ} {vs:List V} (h:Cm (a::asV) vs):∃ v q,vs=v::q/\a.Is v/\Cm asV q:=by
 cases vs with
 |nil=>exact h.elim
 |cons v q=>exact ⟨v,q,rfl,h.1,h.2⟩
open Go
def Fk {α:Type} (x:R) (k:V->St->α):α:=
 match x with
 |(v,st)=>v.f3 fun v=>k v st
theorem KM {α:Type} (v:V) (st:St) (k:V->St->α):Fk (v,st) k=k v st:=by
 simp only [Fk,V.Su]
abbrev Co (o:AE) (fr:Fr) (st:St):T R:=kK o fr st
theorem KN {A:b7} {o:AE} {fr:Fr} {st:St} {K:R->Prop} (h:(Co o fr st).wp A K):(step o fr st).wp A K:=A2 h
noncomputable def T.sv {α:Type} (A:b7) (t:T α):(α->Prop)->Prop:=
 T.rec (motive:=fun _=>(α->Prop)->Prop) (fun a K=>K a) (fun c _ _ it ie K=>aH c (it K) (ie K)) (fun o _ ih K=>cK o fun x=>ih x K) (fun o _ ih K=>cK o fun x=>ih x K) (fun o _ ih K=>cK o fun x=>ih x K)
  (fun o _ ih K=>cK o fun x=>ih x K) (fun o _ ih K=>cK o fun x=>Obj.fS x fun x=>ih x K) (fun o _ _ HW ih K=>bC o (HW K) fun x=>ih x K) (fun c _ ih K=>aM c (ih K)) (fun kd n _ ih K=>aR kd n fun x=>ih x K) (fun _ ih K=>B0 fun r=>ih r K)
  (fun v u _ ih K=>aT v u (ih K)) (fun f asV h _ ih K=>dF A f asV h fun r h'=>ih r h' K) (fun _=>False) t
theorem T.Hg {α:Type} (A:b7) (t:T α):∀ K,t.sv A K=t.sp A K:=by
 induction t with
 |ret a=>exact fun K=>rfl
 |ite c t e OQ OR=>intro K;show aH c (t.sv A K) (e.sv A K)=_;rw [OQ,OR];rfl
 |elem o k ih=>intro K;show (cK o fun x=>(k x).sv A K)=_;simp only [ih];rfl
 |byte o k ih=>intro K;show (cK o fun x=>(k x).sv A K)=_;simp only [ih];rfl
 |tQ o k ih=>intro K;show (cK o fun x=>(k x).sv A K)=_;simp only [ih];rfl
 |F2 o k ih=>intro K;show (cK o fun x=>(k x).sv A K)=_;simp only [ih];rfl
 |obj o k ih=>intro K;show (cK o fun x=>Obj.fS x fun x=>(k x).sv A K)=_;simp only [Obj.qK,ih];rfl
 |mU o n k HW ih=>intro K;show (bC o (n.sv A K) fun x=>(k x).sv A K)=_;simp only [HW,ih];rfl
 |jL c k ih=>intro K;show aM c (k.sv A K)=_;rw [ih];rfl
 |wrap kd n k ih=>intro K;show (aR kd n fun x=>(k x).sv A K)=_;simp only [ih];rfl
 |any k ih=>intro K;show (B0 fun x=>(k x).sv A K)=_;simp only [ih];rfl
 |same v u k ih=>intro K;show aT v u (k.sv A K)=_;rw [ih];rfl
 |call f asV h k ih=>intro K;show (dF A f asV h fun r h'=>(k r h').sv A K)=_;simp only [ih];rfl
 |fail=>exact fun K=>rfl
abbrev Vu:=Fr->St->T (Fr×St)
noncomputable def opV (o:dL) (ih:Vu):Vu:=fun fr st=>
 match o.guard with
 |none=>(Co o.op fr st).bq fun x=>Fk x fun v st=>fr.after o.dst v o.kill fun fr=>ih fr st
 |some (t,want)=>match fr.get t with
  |.b x=>match want with
   |true=>.ite x
    (fr.cut [t] fun r=>(Co o.op ((t,.b true)::r) st).bq fun x=>Fk x fun v st=>Fr.after ((t,.b true)::r) o.dst v o.kill fun fr=>ih fr st)
    (fr.cut [t] fun r=>Fr.after ((t,.b false)::r) o.dst (.bY []) o.kill fun fr=>ih fr st)
   |false=>.ite x
    (fr.cut [t] fun r=>Fr.after ((t,.b true)::r) o.dst (.bY []) o.kill fun fr=>ih fr st)
    (fr.cut [t] fun r=>(Co o.op ((t,.b false)::r) st).bq fun x=>Fk x fun v st=>Fr.after ((t,.b false)::r) o.dst v o.kill fun fr=>ih fr st)
  |.bY _=>fr.after o.dst (.bY []) o.kill fun fr=>ih fr st
  |_=>.fail
noncomputable def mK (l:List dL):Vu:=
 List.rec (motive:=fun _=>Vu) (fun fr st=>.ret (fr,st)) (fun o _ ih=>opV o ih) l
theorem I1 (o:dL) (l:List dL):mK (o::l)=opV o (mK l):=rfl
theorem qT {A:b7} (hA:A.tV):∀ (ops:List dL) (fr:Fr) (st:St) (K:Fr×St->Prop),(mK ops fr st).wp A K->(eF ops fr st).wp A K
 |[],fr,st,K,h=>h
 |o::rest,fr,st,K,h=>by
  have one:∀ {sZ:Fr},((Co o.op sZ st).bq fun x=>Fk x fun v st=>sZ.after o.dst v o.kill fun fr=>mK rest fr st).wp A K->((step o.op sZ st).bind fun x=>match x with
   |(v,st)=>sZ.after o.dst v o.kill fun fr=>eF rest fr st).wp A K:=by
   intro sZ h
   rw [T.ET,T.wp_bind] at h
   rw [T.wp_bind]
   refine KN ?_
   revert h
   refine T.wp_mono hA ?_
   rintro ⟨v,st⟩ h
   dsimp only at h ⊢
   rw [KM,Fr.cW] at h
   rw [Fr.cW]
   exact qT hA rest _ _ K h
  have two:∀ {sZ:Fr},(sZ.after o.dst (.bY []) o.kill fun fr=>mK rest fr st).wp A K->(sZ.after o.dst (.bY []) o.kill fun fr=>eF rest fr st).wp A K:=by
   intro sZ h
   rw [Fr.cW] at h ⊢
   exact qT hA rest _ _ K h
  rw [I1] at h
  obtain ⟨dst,op,g,kill⟩:=o
  cases g with
  |none=>exact one h
  |some q=>
   obtain ⟨t,want⟩:=q
   simp only [opV] at h
   simp only [eF]
   generalize fr.get t=v at h ⊢
   cases v<;>(try exact h)
   case b x=>
    cases want
    · refine ⟨fun hc=>?_,fun hc=>?_⟩
      · have h:=h.1 hc
        rw [Fr.cU] at h ⊢
        exact two h
      · have h:=h.2 hc
        rw [Fr.cU] at h ⊢
        exact one h
    · refine ⟨fun hc=>?_,fun hc=>?_⟩
      · have h:=h.1 hc
        rw [Fr.cU] at h ⊢
        exact one h
      · have h:=h.2 hc
        rw [Fr.cU] at h ⊢
        exact two h
   case bY vs=>exact two h
abbrev Oh:=List bH->Fr->St->T (Fr×St)
noncomputable def YB (d:bH) (ih:Oh):Oh:=fun done fr st=>vN d.o.guard fr
 (fun fr=>(Co d.o.op fr st).bq fun x=>Fk x fun v st=>fr.after d.o.dst v [] fun fr=>recheck d.re done fr st (ih (d::done) fr st))
 (fun fr=>fr.after d.o.dst (.bY []) [] fun fr=>ih (d::done) fr st)
noncomputable def Fl (l:List bH):Oh:=
 List.rec (motive:=fun _=>Oh) (fun _ fr st=>.ret (fr,st)) (fun d _ ih=>YB d ih) l
theorem MZ (o:bH) (l:List bH):Fl (o::l)=YB o (Fl l):=rfl
theorem Fm {A:b7} (hA:A.tV):∀ (ds done:List bH) (fr:Fr) (st:St) (K:Fr×St->Prop),(Fl ds done fr st).wp A K->(pX done ds fr st).wp A K
 |[],done,fr,st,K,h=>h
 |d::rest,done,fr,st,K,h=>by
  rw [MZ] at h
  simp only [YB] at h
  simp only [pX]
  refine Ad (fun fr h=>?_) (fun fr h=>?_) h
  · rw [T.ET,T.wp_bind] at h
    rw [T.wp_bind]
    refine KN ?_
    refine T.wp_mono hA ?_ h
    rintro ⟨v,st⟩ h
    dsimp only at h ⊢
    rw [KM,Fr.cW] at h
    rw [Fr.cW]
    exact iK hA (fun h=>Fm hA rest _ _ _ K h) h
  · rw [Fr.cW] at h ⊢
    exact Fm hA rest _ _ _ K h
abbrev KO:=(Ex->Fr->St->Prop)->Fr->St->Prop
structure cS (A:b7) (b:AC) (ib:KO) (Q:Ex->Fr->St->Prop) (fr:Fr) (st:St):Prop where
 h:b8 (fun R=>ib (qG R Q)) fr st
noncomputable def QG (A:b7) (c:AC):KO:=
 AC.rec (motive:=fun _=>KO) (fun Q fr st=>Q .normal fr st) (fun ops Q fr st=>(mK ops fr st).sv A (iY Q)) (fun ds kill Q fr st=>((Fl ds [] fr st).bq (vB kill)).sv A (iY Q))
  (fun _ _ ia ib Q fr st=>ia (qG (ib Q) Q) fr st)
  (fun c _ _ ia ib Q fr st=>match c.ev fr with
    |.b x=>aH x (ia Q fr st) (ib Q fr st)
    |_=>False)
  (fun id _ ib Q fr st=>ib (j9 id Q) fr st) (fun b ib Q fr st=>cS A b ib Q fr st) (fun id Q fr st=>Q (.exit id) fr st) (fun Q fr st=>Q .ret fr st) (fun _ _ _=>False) c
theorem KP (A:b7) (c:bL) (a b:AC) (Q:Ex->Fr->St->Prop) (fr:Fr) (st:St):QG A (.cond c a b) Q fr st=match c.ev fr with
 |.b x=>aH x (QG A a Q fr st) (QG A b Q fr st)
 |_=>False:=rfl
theorem qU {A:b7} (hA:A.tV):∀ (c:AC) (Q Q':Ex->Fr->St->Prop) (fr:Fr) (st:St),QG A c Q fr st->(∀ e fr st,Q e fr st->Q' e fr st)->QG A c Q' fr st
 |.skip,Q,Q',fr,st,h,hq=>hq _ _ _ h
 |.BE ops,Q,Q',fr,st,h,hq=>by
  have h:(mK ops fr st).sv A (iY Q):=h
  show (mK ops fr st).sv A (iY Q')
  rw [T.Hg] at h ⊢
  exact T.rN hA _ (fun ⟨_,_⟩ h=>hq _ _ _ h) h
 |.u0 ds kill,Q,Q',fr,st,h,hq=>by
  have h:((Fl ds [] fr st).bq (vB kill)).sv A (iY Q):=h
  show ((Fl ds [] fr st).bq (vB kill)).sv A (iY Q')
  rw [T.Hg] at h ⊢
  exact T.rN hA _ (fun ⟨_,_⟩ h=>hq _ _ _ h) h
 |.seq a b,Q,Q',fr,st,h,hq=>by
  refine qU hA a _ _ fr st h ?_
  intro e fr st h
  cases e with
  |normal=>exact qU hA b _ _ fr st h hq
  |exit id=>exact hq _ _ _ h
  |ret=>exact hq _ _ _ h
 |.cond c a b,Q,Q',fr,st,h,hq=>by
  rw [KP] at h ⊢
  split at h
  · exact ⟨fun hc=>qU hA a _ _ _ _ (h.t hc) hq,fun hc=>qU hA b _ _ _ _ (h.f hc) hq⟩
  · exact h.elim
 |.bS id b,Q,Q',fr,st,h,hq=>by
  refine qU hA b _ _ fr st h ?_
  intro e fr st h
  cases e with
  |normal=>exact hq _ _ _ h
  |exit BG=>
   simp only [j9] at h ⊢
   split
   · rename_i hi;rw [if_pos hi] at h;exact hq _ _ _ h
   · rename_i hi;rw [if_neg hi] at h;exact hq _ _ _ h
  |ret=>exact hq _ _ _ h
 |.loop b,Q,Q',fr,st,h,hq=>by
  refine cS.mk ⟨fun R hR=>h.h.h R fun fr cF st hl hx=>hR fr cF st hl ?_⟩
  refine qU hA b _ _ cF st hx ?_
  intro e fr st h
  cases e with
  |normal=>exact h
  |exit id=>exact hq _ _ _ h
  |ret=>exact hq _ _ _ h
 |.exit id,Q,Q',fr,st,h,hq=>hq _ _ _ h
 |.ret,Q,Q',fr,st,h,hq=>hq _ _ _ h
 |.no,_,_,_,_,h,_=>h.elim
theorem uI {A:b7} (hA:A.tV):∀ (c:AC) (Q Q':Ex->Fr->St->Prop) (fr:Fr) (st:St),QG A c Q fr st->(∀ e fr st,Q e fr st->Q' e fr st)->Ip A c Q' fr st
 |.skip,Q,Q',fr,st,h,hq=>hq _ _ _ h
 |.BE ops,Q,Q',fr,st,h,hq=>by
  have h:(mK ops fr st).sv A (iY Q):=h
  rw [T.Hg] at h
  exact T.wp_mono hA (fun ⟨_,_⟩ h=>hq _ _ _ h) (qT hA ops fr st _ (T.zM hA _ _ h))
 |.u0 ds kill,Q,Q',fr,st,h,hq=>by
  refine T.wp_mono hA (fun ⟨_,_⟩ h=>hq _ _ _ h) (?_:T.wp A _ (iY Q))
  have h:((Fl ds [] fr st).bq (vB kill)).sv A (iY Q):=h
  rw [T.Hg,T.ET] at h
  have h:=T.zM hA _ _ h
  rw [T.wp_bind] at h ⊢
  exact Fm hA _ _ _ _ _ h
 |.seq a b,Q,Q',fr,st,h,hq=>by
  refine uI hA a _ _ fr st h ?_
  intro e fr st h
  cases e with
  |normal=>exact uI hA b _ _ fr st h hq
  |exit id=>exact hq _ _ _ h
  |ret=>exact hq _ _ _ h
 |.cond c a b,Q,Q',fr,st,h,hq=>by
  rw [KP] at h
  simp only [Ip]
  split at h
  · rename_i x hx
    rw [hx]
    exact ⟨fun hc=>uI hA a _ _ _ _ (h.t hc) hq,fun hc=>uI hA b _ _ _ _ (h.f hc) hq⟩
  · exact h.elim
 |.bS id b,Q,Q',fr,st,h,hq=>by
  refine uI hA b _ _ fr st h ?_
  intro e fr st h
  cases e with
  |normal=>exact hq _ _ _ h
  |exit BG=>
   simp only [j9] at h ⊢
   split
   · rename_i hi;rw [if_pos hi] at h;exact hq _ _ _ h
   · rename_i hi;rw [if_neg hi] at h;exact hq _ _ _ h
  |ret=>exact hq _ _ _ h
 |.loop b,Q,Q',fr,st,h,hq=>by
  intro R hR
  refine h.h.h R fun fr cF st hl hx=>hR fr cF st hl ?_
  refine uI hA b _ _ cF st hx ?_
  intro e fr st h
  cases e with
  |normal=>exact h
  |exit id=>exact hq _ _ _ h
  |ret=>exact hq _ _ _ h
 |.exit id,Q,Q',fr,st,h,hq=>hq _ _ _ h
 |.ret,Q,Q',fr,st,h,hq=>hq _ _ _ h
 |.no,_,_,_,_,h,_=>h.elim
theorem cS.un {P:Program} {b:AC} {ib:KO} {Q:Ex->Fr->St->Prop} {fr:Fr} {st:St} (e:QG (aC P) b=ib) (h:ib (qG (cS (aC P) b ib Q) Q) fr st):cS (aC P) b ib Q fr st:=by
 subst e
 refine ⟨⟨fun R hR=>hR fr fr st (Fr.le_refl _) (qU (aC.mono P) b _ _ fr st h ?_)⟩⟩
 intro e fr st hx
 cases e with
 |normal=>exact hx.h.h R hR
 |exit id=>exact hx
 |ret=>exact hx
theorem cS.by {P:Program} {b:AC} {ib:KO} {Q:Ex->Fr->St->Prop} {fr:Fr} {st:St} (I:Nat->Fr->St->Prop) (n:Nat) (h0:I n fr st)
 (hs:∀ n fr st,I n fr st->∃ cF,Fr.le cF fr/\∀ R:Fr->St->Prop,(∀ m fr st,m<n->I m fr st->R fr st)->ib (qG R Q) cF st):cS (aC P) b ib Q fr st:=⟨b8.by I n h0 hs⟩
theorem dU {P:Program} {f:Nat} {F:aZ} (hk:gU P f F=true) {args:List V} (hn:args.length=F.nparams) {h:aA} {K:V->aA->Prop}
 (hw:(b9 0 args).fS fun fr=>QG (aC P) F.body (wC F.results K) fr (dP h)):aC P f args h K:=by
 rw [Fr.qK] at hw
 exact fn_ok hk hn (uI (aC.mono P) _ _ _ _ _ hw fun _ _ _ h=>h)
end Go.Eng
