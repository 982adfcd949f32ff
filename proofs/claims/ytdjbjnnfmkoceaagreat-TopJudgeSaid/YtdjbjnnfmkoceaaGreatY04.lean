/-
Regions whose order is drawn: one order serves for all.
-/
import Derived.Test.YtdjbjnnfmkoceaaGreatY02
import Derived.Test.YtdjbjnnfmkoceaaGreatY03
import Derived.Orders
set_option linter.unusedVariables false
set_option linter.unusedSimpArgs false
namespace Go.Eng
open Go
inductive Rn (ops:Array Oper):Nat->Nat->Prop
 |an5 {i:Nat} {o:Oper} {e:Edge} (ho:ops[i]? =some o) (he:e∈o.after) (hb:Region.binds .any e=true):Rn ops i e.on
 |far {i j:Nat} {o:Oper} {e:Edge} (ho:ops[i]? =some o) (he:e∈o.after) (hb:Region.binds .any e=true) (h:Rn ops e.on j):Rn ops i j
def look:List (Nat×Nat)->Nat->Nat
 |[],_=>0
 |(k,l)::r,n=>match Nat.beq k n with
  |true=>l
  |false=>look r n
def mR (o:Oper):List Nat:=(o.after.toList.filter (Region.binds .any)).map (·.on)
def mA (j m:Nat):Bool:=Nat.testBit m j
def Dh (Di:List (Nat×Nat)):List Nat->Nat->Nat
 |[],m=>m
 |j::r,m=>Dh Di r (Nat.lor m (Nat.lor (Nat.shiftLeft 1 j) (look Di j)))
theorem BI (Di:List (Nat×Nat)) (j:Nat):∀ (l:List Nat) (m:Nat),mA j (Dh Di l m)=true->mA j m=true\/∃ k,k∈l/\(j=k\/mA j (look Di k)=true)
 |[],m,h=>.inl h
 |k::r,m,h=>by
  rcases BI Di j r _ h with h|⟨q,hq,h⟩
  · simp only [mA] at h ⊢
    have h:(m|||((1<<<k)|||look Di k)).testBit j=true:=h
    rw [Nat.testBit_or,Nat.testBit_or] at h
    simp only [Bool.or_eq_true] at h
    rcases h with h|h|h
    · exact .inl h
    · refine .inr ⟨k,by simp,.inl ?_⟩
      rw [Nat.testBit_shiftLeft] at h
      simp only [ge_iff_le,Bool.and_eq_true,decide_eq_true_eq] at h
      have:=Nat.testBit_one_eq_true_iff_self_eq_zero.1 h.2
      omega
    · exact .inr ⟨k,by simp,.inr h⟩
  · exact .inr ⟨q,by simp [hq],h⟩
def It (ops:Array Oper) (Di:List (Nat×Nat)) (i:Nat):List (Nat×Nat):=
 match ops[i]? with
 |some o=>(i,Dh Di (mR o) 0)::Di
 |none=>Di
def OX (ops:Array Oper):List Nat->List (Nat×Nat)->List (Nat×Nat)
 |[],Di=>Di
 |i::r,Di=>OX ops r (It ops Di i)
def Dj (ops:Array Oper) (Di:List (Nat×Nat)):Prop:=∀ i j,mA j (look Di i)=true->Rn ops i j
theorem ancStep_ok {ops:Array Oper} {Di:List (Nat×Nat)} (h:Dj ops Di) (i:Nat):Dj ops (It ops Di i):=by
 unfold It
 split
 · rename_i o ho
   intro i' j hj
   simp only [look] at hj
   split at hj
   · rename_i hb
     have:=Nat.eq_of_beq_eq_true hb
     subst this
     rcases BI _ _ _ _ hj with hj|⟨k,hk,hj⟩
     · simp [mA] at hj
     simp only [mR,List.mem_map,List.mem_filter] at hk
     obtain ⟨e,⟨he,hb⟩,rfl⟩:=hk
     have he:e∈o.after:=by simpa using he
     rcases hj with rfl|hj
     · exact .an5 ho he hb
     · exact .far ho he hb (h _ _ hj)
   · exact h i' j hj
 · exact h
theorem ancTab_ok {ops:Array Oper}:∀ (l:List Nat) {Di:List (Nat×Nat)},Dj ops Di->Dj ops (OX ops l Di)
 |[],_,h=>h
 |i::r,_,h=>ancTab_ok r (ancStep_ok h i)
def P0 (ops:Array Oper) (l:List Nat):List (Nat×Nat):=OX ops l []
theorem allAncs_ok (ops:Array Oper) (l:List Nat):Dj ops (P0 ops l):=ancTab_ok l (fun i j h=>by simp [look,mA] at h)
def Va (g:Option (Nat×Bool)):List Nat:=
 match g with
 |some (t,_)=>[t]
 |none=>[]
def aO.reads (d:aO):List Nat:=Va d.o.guard++d.o.op.aZ
def aO.is (d:aO) (t:Nat):Bool:=
 match d.o.dst with
 |some n=>Nat.beq n t
 |none=>false
def uC (d:aO):Bool:=
 match d.o.op,d.o.guard with
 |.alloc _ _,none=>d.iN
 |_,_=>false
def OY (P1:List (Nat×Nat)) (d e:aO):Bool:=
 -- OZ writes OM an av5 one looks at,or wrote
 (match e.o.dst with
 |some n=>(!bZ n d.reads&&!d.is n)||(e.iN&&mA d.ix (look P1 e.ix))
 |none=>true)&&
 -- OM one looks at of Og an6 own comes from an an7
 (match d.o.dst with
 |some n=>!bZ n e.reads||mA d.ix (look P1 e.ix)
 |none=>true)&&
 -- behind a iN one all are its ahI,but for new objects
 (!d.iN||mA d.ix (look P1 e.ix)||uC e)&&
 -- a iN one:OM was before it,and it aCp not wait for,is pure or looked at again
 (!e.iN||d.iN||mA d.ix (look P1 e.ix)||Dg d.o.op||bZ d.ix e.re)&&
 (!bZ d.ix e.re||(e.iN&&!d.iN))&&
 -- a new object aeF OZ waits to make:OZ axS slot
 (!uC e||match e.o.dst with
 |some n=>!d.is n
 |none=>true)
def CC (P1:List (Nat×Nat)):List aO->Bool
 |[]=>true
 |d::r=>r.all (OY P1 d)&&CC P1 r
def Vb (P:Program) (N:Nat) (ops:Array Oper) (d:aO):Bool:=
 match ops[d.ix]? with
 |some o=>EM P o.op d.o.op&&decide (d.o.dst=o.dst)&&KN N o.dst&&j0 ops o.guard d.o.guard&&(d.iN||gM d.o.op)&&
   (match d.o.dst with
   |some n=>!bZ n d.reads
   |none=>true)
 |none=>false
def CD (ops:Array Oper):List Nat->List aO->Bool
 |_,[]=>true
 |seen,d::r=>(match ops[d.ix]? with
  |some o=>(mR o).all fun j=>bZ j seen
  |none=>false)&&!bZ d.ix seen&&CD ops (d.ix::seen) r
def Bb (P:Program) (N:Nat) (ops:Array Oper) (ds:List aO):Bool:=
 P.follows .mixedOrders&&decide (ds.length=ops.size)&&ds.all (Vb P N ops)&&CC (P0 ops (ds.map (·.ix))) ds&&CD ops [] ds
theorem CE {fr:Fr} {t:Nat} {v:V} (h:fr.get t=v) (t':Nat):Fr.get ((t,v)::fr.jZ [t]) t'=fr.get t':=by
 simp only [Fr.get]
 by_cases ht:t=t'
 · subst ht;rw [if_pos rfl,h]
 · rw [if_neg ht,Fr.eC]
   rw [if_neg]
   simp only [bU,List.mem_singleton]
   exact fun e=>ht e.symm
theorem gY (fr:Fr) (dst:Option Nat) (v:V) (t:Nat):(fr.next dst v []).get t=if dst=some t then v else fr.get t:=by
 rw [Fr.gY,if_neg (by simp [bZ])]
theorem Dk {A:bK} {β:Type} {g:Option (Nat×Bool)} {fr:Fr} {yes no:Fr->T β} {K:β->Prop} (h:(rJ g fr yes no).wp A K):
 ∃ bV,(∀ t,bV.get t=fr.get t)/\((cI g fr=some true/\(yes bV).wp A K)\/(cI g fr=some false/\(no bV).wp A K)):=by
 unfold rJ at h
 split at h
 · exact ⟨fr,fun _=>rfl,.inl ⟨rfl,h⟩⟩
 · rename_i t want
   split at h
   · rename_i x hx
     split at h
     · cases x with
       |true=>
        have h:=h.1 rfl
        rw [Fr.b8] at h
        exact ⟨_,CE hx,.inl ⟨by simp [cI,hx],h⟩⟩
       |false=>
        have h:=h.2 rfl
        rw [Fr.b8] at h
        exact ⟨_,CE hx,.inr ⟨by simp [cI,hx],h⟩⟩
     · cases x with
       |true=>
        have h:=h.1 rfl
        rw [Fr.b8] at h
        exact ⟨_,CE hx,.inr ⟨by simp [cI,hx],h⟩⟩
       |false=>
        have h:=h.2 rfl
        rw [Fr.b8] at h
        exact ⟨_,CE hx,.inl ⟨by simp [cI,hx],h⟩⟩
   · rename_i cs hx
     exact ⟨fr,fun _=>rfl,.inr ⟨by simp [cI,hx],h⟩⟩
   · exact h.elim
theorem qX {g:Option (Nat×Bool)} {fr bV:Fr} (h:∀ t∈Va g,fr.get t=bV.get t):cI g fr=cI g bV:=by
 unfold cI
 cases g with
 |none=>rfl
 |some q=>
  obtain ⟨t,w⟩:=q
  have ht:fr.get t=bV.get t:=h t (.head _)
  simp only [ht]
theorem lV {N:Nat} {ops:Array Oper} {E:Env} {fr:Fr} {a:Act} {o:Oper} {g:Option (Nat×Bool)} (hg:j0 ops o.guard g=true) (hf:aS E N fr a) {b:Bool} (h:cI g fr=some b):
 Region.wanted o (yielded ops a.tmps)=b:=by
 unfold cI at h
 cases hgo:o.guard with
 |none=>
  cases g with
  |none=>simp at h;subst h;simp [Region.wanted,hgo]
  |some q=>rw [hgo] at hg;simp [j0] at hg
 |some q=>
  obtain ⟨j,w⟩:=q
  cases g with
  |none=>rw [hgo] at hg;simp [j0] at hg
  |some q=>
   obtain ⟨t,w'⟩:=q
   rw [hgo] at hg
   simp only [j0,Bool.and_eq_true,decide_eq_true_eq] at hg
   obtain ⟨rfl,hg⟩:=hg
   split at hg
   case h_2=>cases hg
   rename_i oj hoj
   simp only [decide_eq_true_eq] at hg
   simp only at h
   split at h
   · rename_i x hx
     simp only [Option.some.injEq] at h
     have hy:=F4 hf hoj hg hx
     subst h
     simp [Region.wanted,hgo,hy]
   · rename_i cs hx
     simp only [Option.some.injEq] at h
     have hy:=F5 hf hoj hg hx
     subst h
     simp [Region.wanted,hgo,hy]
   · cases h
def KQ (A:bK) (d:aO) (fr:Fr) (st:St):Prop:=
 (cI d.o.guard fr=some true/\∃ v,(step d.o.op fr st).Yields A st v/\∀ n,d.o.dst=some n->fr.get n=v)\/
 (cI d.o.guard fr=some false/\∀ n,d.o.dst=some n->fr.get n=.bC [])
theorem KQ.congr {A:bK} {d:aO} {fr bV:Fr} {st:St} (h:∀ t,t∈d.reads\/d.o.dst=some t->fr.get t=bV.get t) (hv:KQ A d fr st):KQ A d bV st:=by
 have hg:cI d.o.guard fr=cI d.o.guard bV:=qX fun t ht=>h t (.inl (List.mem_append_left _ ht))
 have hs:step d.o.op fr st=step d.o.op bV st:=iX (fun t ht=>h t (.inl (List.mem_append_right _ ht))) st
 rcases hv with ⟨h1,v,h2,h3⟩|⟨h1,h2⟩
 · exact .inl ⟨hg▸h1,v,hs▸h2,fun n hn=>by rw [<-h n (.inr hn)];exact h3 n hn⟩
 · exact .inr ⟨hg▸h1,fun n hn=>by rw [<-h n (.inr hn)];exact h2 n hn⟩
theorem KQ.pure {A:bK} {d:aO} {fr:Fr} {st:St} (hp:Dg d.o.op=true) (bA:St) (hv:KQ A d fr st):KQ A d fr bA:=by
 rcases hv with ⟨h1,v,h2,h3⟩|h
 · refine .inl ⟨h1,v,fun K hK=>F6 hp A fr st bA K (h2 _ hK),h3⟩
 · exact .inr h
theorem lM {A:bK} {β:Type} {re:List Nat} {fr:Fr} {st:St} {k:T β} {K:β->Prop}:∀ {done:List aO},(∀ p∈done,bZ p.ix re=true->gM p.o.op=true)->(recheck re done fr st k).wp A K->
 k.wp A K/\∀ p∈done,bZ p.ix re=true->cI p.o.guard fr=some true->∃ v,(step p.o.op fr st).Yields A st v/\∀ n,p.o.dst=some n->fr.get n=v
 |[],_,h=>⟨h,fun p hp=>by cases hp⟩
 |p::ps,hq,h=>by
  have hq':∀ q∈ps,bZ q.ix re=true->gM q.o.op=true:=fun q hm=>hq q (.tail _ hm)
  simp only [recheck] at h
  split at h
  · rename_i hm
    split at h
    · rename_i hg
      rw [T.wp_bind] at h
      obtain ⟨v,hy,h⟩:=T.eF (yK (hq p (.head _) hm) fr st) h
      dsimp only at h
      have key:(∀ n,p.o.dst=some n->fr.get n=v)/\(recheck re ps fr st k).wp A K:=by
       split at h
       · rename_i n hn
         exact ⟨fun n' hn'=>(by rw [hn] at hn';cases hn';exact h.1),h.2⟩
       · rename_i hn
         exact ⟨fun n' hn'=>(by rw [hn] at hn';cases hn'),h⟩
      obtain ⟨i1,i2⟩:=lM hq' key.2
      refine ⟨i1,fun q Vc=>?_⟩
      rcases List.mem_cons.1 Vc with rfl|Vc
      · exact fun _ _=>⟨v,hy,key.1⟩
      · exact i2 q Vc
    · rename_i hg
      obtain ⟨i1,i2⟩:=lM hq' h
      refine ⟨i1,fun q Vc=>?_⟩
      rcases List.mem_cons.1 Vc with rfl|Vc
      · intro _ h3;rw [hg] at h3;cases h3
      · exact i2 q Vc
    · exact h.elim
  · rename_i hm
    obtain ⟨i1,i2⟩:=lM hq' h
    refine ⟨i1,fun q Vc=>?_⟩
    rcases List.mem_cons.1 Vc with rfl|Vc
    · intro h1;rw [hm] at h1;cases h1
    · exact i2 q Vc
def Un (listed:Array Bool) (d:aO):Prop:=listed.getD d.ix true=false
structure Ap (S:Nat) (E:Env) (st:St) (w:World) (a:Act) (d:aO) (b:Nat):Prop where
 size:S<=b
 ptr:∀ n,d.o.dst=some n->a.tmps.getD n undef=.pointer (some ⟨b,0,none⟩)
 obj:∃ g zero cells t fz,d.o.op=.alloc g zero/\d.o.guard=none/\w.heap[b]? =some (.cells cells t fz)/\tB 1 fz cells.size/\cells.size=zero.length/\(∀ F,dY F zero cells)/\∀ (j:Nat) (x:Value),cells[j]? =some x->x.oneCell'=true
 apart:∀ k,st.live k->(E.μ k).bI≠b
 jR:∀ o,E.I b o=none
theorem Ap.step {S:Nat} {E E':Env} {st bA:St} {w w':World} {a a':Act} {d:aO} {b:Nat} (h:Ap S E st w a d b) (hx:Ext E st w E' bA w') (ha:∀ n,d.o.dst=some n->a'.tmps.getD n undef=a.tmps.getD n undef):Ap S E' bA w' a' d b:=by
 obtain ⟨g,zero,cells,t,fz,h1,h2,h3,h4⟩:=h.obj
 have hb:b<w.heap.size:=(Array.getElem?_eq_some_iff.1 h3).1
 refine ⟨h.size,fun n hn=>by rw [ha n hn];exact h.ptr n hn,⟨g,zero,cells,t,fz,h1,h2,by rw [hx.same b hb h.apart];exact h3,h4⟩,fun k hk=>?_,fun o=>?_⟩
 · by_cases he:E.has k
   · rw [hx.le.loc k he]
     exact h.apart k (hx.fT k hk he)
   · rcases hx.gG k hk he with h5|⟨k0,h5,h6⟩
     · omega
     · rw [<-h6];exact h.apart k0 h5
 · cases hI:E'.I b o with
   |none=>rfl
   |some x=>
    rcases hx.fX b o x hI with h5|h5|⟨k,h5,h6⟩
    · rw [h.jR o] at h5;cases h5
    · omega
    · exact absurd h6 (h.apart k h5)
structure tC (S:Nat) (A:bK) (N:Nat) (K:Fr×St->Prop) (pre suf:List aO) (listed:Array Bool) (E:Env) (st:St) (w:World) (fr:Fr) (a:Act):Prop where
 Ou:bQ E st w
 size:a.tmps.size=N
 rel:∀ t,(∀ d∈pre,Un listed d->d.o.dst≠some t)->(∀ d∈suf,¬Un listed d->d.o.dst≠some t)->Rel E (fr.get t) (a.tmps.getD t undef)
 early:∃ B:Nat->Nat,(∀ d∈suf,¬Un listed d->Ap S E st w a d (B d.ix))/\∀ d∈suf,∀ e∈suf,¬Un listed d->¬Un listed e->B d.ix=B e.ix->d.ix=e.ix
 Iu:∀ d∈pre,Un listed d->d.iN=false/\KQ A d fr st
 run:∃ done,(∀ x,x∈done->x∈pre)/\(∀ x,x∈pre->x∈done)/\(gD done suf fr st).wp A K
structure sN (ops:Array Oper) (d e:aO):Prop where
 w:∀ n,e.o.dst=some n->(n∉d.reads/\d.o.dst≠some n)\/(e.iN=true/\Rn ops e.ix d.ix)
 r:∀ n,d.o.dst=some n->n∈e.reads->Rn ops e.ix d.ix
 l:d.iN=true->Rn ops e.ix d.ix\/uC e=true
 s:e.iN=true->d.iN=false->Rn ops e.ix d.ix\/Dg d.o.op=true\/bZ d.ix e.re=true
 q:bZ d.ix e.re=true->e.iN=true/\d.iN=false
 f:uC e=true->∀ n,e.o.dst=some n->d.o.dst≠some n
theorem KR {ops:Array Oper} {P1:List (Nat×Nat)} (ht:Dj ops P1) {d e:aO} (h:OY P1 d e=true):sN ops d e:=by
 unfold OY at h
 simp only [Bool.and_eq_true,Bool.or_eq_true,Bool.not_eq_true'] at h
 obtain ⟨⟨⟨⟨⟨h1,h2⟩,h3⟩,h4⟩,h5⟩,h6⟩:=h
 have hA:mA d.ix (look P1 e.ix)=true->Rn ops e.ix d.ix:=fun hm=>ht _ _ hm
 refine ⟨fun n hn=>?_,fun n hn hm=>?_,fun hl=>?_,fun hl hd=>?_,fun hm=>?_,fun hf n hn hd=>?_⟩
 · rw [hn] at h1
   simp only [Bool.or_eq_true,Bool.and_eq_true,Bool.not_eq_true'] at h1
   rcases h1 with h1|h1
   · refine .inl ⟨fun hm=>?_,fun hd=>?_⟩
     · rw [bU.2 hm] at h1;exact absurd h1.1 (by simp)
     · have:=h1.2
       simp [aO.is,hd] at this
   · exact .inr ⟨h1.1,hA h1.2⟩
 · rw [hn] at h2
   simp only [Bool.or_eq_true,Bool.not_eq_true'] at h2
   rcases h2 with h2|h2
   · rw [bU.2 hm] at h2;cases h2
   · exact hA h2
 · rcases h3 with (h3|h3)|h3
   · rw [hl] at h3;cases h3
   · exact .inl (hA h3)
   · exact .inr h3
 · rcases h4 with (((h4|h4)|h4)|h4)|h4
   · rw [hl] at h4;cases h4
   · rw [hd] at h4;cases h4
   · exact .inl (hA h4)
   · exact .inr (.inl h4)
   · exact .inr (.inr h4)
 · rcases h5 with h5|h5
   · rw [hm] at h5;cases h5
   · exact h5
 · rcases h6 with h6|h6
   · rw [hf] at h6;cases h6
   · rw [hn] at h6
     simp [aO.is,hd] at h6
theorem tC.advance {S:Nat} {P:Program} {ops:Array Oper} {N:Nat} {K:Fr×St->Prop} {pre suf:List aO} {q:aO} {listed:Array Bool} {E:Env} {st:St} {w:World} {fr:Fr} {a:Act}
 (h:tC S (aE P) N K pre (q::suf) listed E st w fr a) (hp:∀ d∈pre,sN ops d q) (hu:Un listed q) (hq:q.iN=false) (hqq:gM q.o.op=true) (ahK:∀ n,q.o.dst=some n->n∉q.reads):
 ∃ bV,tC S (aE P) N K (pre++[q]) suf listed E st w bV a:=by
 obtain ⟨done,EJ,Kx,dO⟩:=h.run
 simp only [gD] at dO
 obtain ⟨F9,KS,Dl⟩:=Dk dO
 -- OM is known of Og frame behind it
 have main:∀ (v:V),((cI q.o.guard fr=some true/\(step q.o.op fr st).Yields (aE P) st v)\/(cI q.o.guard fr=some false/\v=.bC []))->
  (gD (q::done) suf (F9.next q.o.dst v []) st).wp (aE P) K->∃ bV,tC S (aE P) N K (pre++[q]) suf listed E st w bV a:=by
  intro v hv hr
  have fY:∀ t,(F9.next q.o.dst v []).get t=if q.o.dst=some t then v else fr.get t:=fun t=>by rw [gY,KS]
  obtain ⟨B,Vd,hB2⟩:=h.early
  refine ⟨F9.next q.o.dst v [],h.Ou,h.size,fun t ht ht2=>?_,⟨B,fun d hd=>Vd d (.tail _ hd),fun d hd e he=>hB2 d (.tail _ hd) e (.tail _ he)⟩,fun d hd EP=>?_,q::done,?_,?_,hr⟩
  · rw [fY]
    have dX:q.o.dst≠some t:=ht q (by simp) hu
    rw [if_neg dX]
    refine h.rel t (fun d hd=>ht d (List.mem_append_left _ hd)) fun d hd CF=>?_
    rcases List.mem_cons.1 hd with rfl|hd
    · exact absurd hu CF
    · exact ht2 d hd CF
  · rw [List.mem_append,List.mem_singleton] at hd
    rcases hd with hd|rfl
    · obtain ⟨h1,h2⟩:=h.Iu d hd EP
      refine ⟨h1,h2.congr fun t ht=>?_⟩
      rw [fY,if_neg]
      intro hqt
      have:=(hp d hd).w t hqt
      rcases this with this|this
      · rcases ht with ht|ht
        · exact this.1 ht
        · exact this.2 ht
      · rw [hq] at this;cases this.1
    · refine ⟨hq,?_⟩
      have hg:cI d.o.guard (F9.next d.o.dst v [])=cI d.o.guard fr:=qX fun t ht=>by
       rw [fY,if_neg]
       intro hqt
       exact ahK t hqt (List.mem_append_left _ ht)
      have hs:step d.o.op (F9.next d.o.dst v []) st=step d.o.op fr st:=iX (fun t ht=>by
       rw [fY,if_neg]
       intro hqt
       exact ahK t hqt (List.mem_append_right _ ht)) st
      have KT:∀ n,d.o.dst=some n->(F9.next d.o.dst v []).get n=v:=fun n hn=>by rw [fY,if_pos hn]
      rcases hv with ⟨h1,h2⟩|⟨h1,rfl⟩
      · exact .inl ⟨by rw [hg];exact h1,v,by rw [hs];exact h2,KT⟩
      · exact .inr ⟨by rw [hg];exact h1,KT⟩
  · intro x hx
    rcases List.mem_cons.1 hx with rfl|hx
    · simp
    · simp [EJ x hx]
  · intro x hx
    rw [List.mem_append,List.mem_singleton] at hx
    rcases hx with hx|rfl
    · exact .tail _ (Kx x hx)
    · exact .head _
 rcases Dl with ⟨hg,hw⟩|⟨hg,hw⟩
 · rw [T.wp_bind] at hw
   have hs:step q.o.op F9 st=step q.o.op fr st:=iX (fun t _=>KS t) st
   rw [hs] at hw
   obtain ⟨v,hy,hw⟩:=T.eF (yK hqq fr st) hw
   dsimp only at hw
   rw [Fr.bW] at hw
   have hno:∀ p∈done,bZ p.ix q.re=true->gM p.o.op=true:=fun p hp' hm=>by
    have:=((hp p (EJ p hp')).q hm).1
    rw [hq] at this;cases this
   exact main v (.inl ⟨hg,hy⟩) (lM hno hw).1
 · rw [Fr.bW] at hw
   exact main (.bC []) (.inr ⟨hg,rfl⟩) hw
def uD (listed:Array Bool):List aO->List Nat
 |[]=>[]
 |d::r=>match listed.getD d.ix true,d.o.dst with
  |false,some n=>n::uD listed r
  |_,_=>uD listed r
theorem yL {listed:Array Bool} {n:Nat}:∀ {l:List aO},n∈uD listed l↔∃ d∈l,Un listed d/\d.o.dst=some n
 |[]=>by simp [uD]
 |d::r=>by
  have ih:=yL (listed:=listed) (n:=n) (l:=r)
  cases h1:listed.getD d.ix true with
  |true=>
   have hu:¬Un listed d:=by simp only [Un];rw [h1];simp
   simp only [uD,h1,ih]
   constructor
   · rintro ⟨e,he,h⟩;exact ⟨e,.tail _ he,h⟩
   · rintro ⟨e,he,h⟩
     rcases List.mem_cons.1 he with rfl|he
     · exact absurd h.1 hu
     · exact ⟨e,he,h⟩
  |false=>
   have hu:Un listed d:=h1
   cases h2:d.o.dst with
   |none=>
    simp only [uD,h1,h2,ih]
    constructor
    · rintro ⟨e,he,h⟩;exact ⟨e,.tail _ he,h⟩
    · rintro ⟨e,he,h⟩
      rcases List.mem_cons.1 he with rfl|he
      · rw [h2] at h;cases h.2
      · exact ⟨e,he,h⟩
   |some m=>
    simp only [uD,h1,h2,List.mem_cons,ih]
    constructor
    · rintro (rfl|⟨e,he,h⟩)
      · exact ⟨d,.inl rfl,hu,h2⟩
      · exact ⟨e,.inr he,h⟩
    · rintro ⟨e,he|he,h⟩
      · subst he;rw [h2] at h;left;exact (Option.some.inj h.2).symm
      · exact .inr ⟨e,he,h⟩
def uE (listed:Array Bool):List aO->List Nat
 |[]=>[]
 |d::r=>match listed.getD d.ix true,d.o.dst with
  |true,some n=>n::uE listed r
  |_,_=>uE listed r
theorem yM {listed:Array Bool} {n:Nat}:∀ {l:List aO},n∈uE listed l↔∃ d∈l,¬Un listed d/\d.o.dst=some n
 |[]=>by simp [uE]
 |d::r=>by
  have ih:=yM (listed:=listed) (n:=n) (l:=r)
  cases h1:listed.getD d.ix true with
  |false=>
   have hu:Un listed d:=h1
   simp only [uE,h1,ih]
   constructor
   · rintro ⟨e,he,h⟩;exact ⟨e,.tail _ he,h⟩
   · rintro ⟨e,he,h⟩
     rcases List.mem_cons.1 he with rfl|he
     · exact absurd hu h.1
     · exact ⟨e,he,h⟩
  |true=>
   have hu:¬Un listed d:=by simp only [Un];rw [h1];simp
   cases h2:d.o.dst with
   |none=>
    simp only [uE,h1,h2,ih]
    constructor
    · rintro ⟨e,he,h⟩;exact ⟨e,.tail _ he,h⟩
    · rintro ⟨e,he,h⟩
      rcases List.mem_cons.1 he with rfl|he
      · rw [h2] at h;cases h.2
      · exact ⟨e,he,h⟩
   |some m=>
    simp only [uE,h1,h2,List.mem_cons,ih]
    constructor
    · rintro (rfl|⟨e,he,h⟩)
      · exact ⟨d,.inl rfl,hu,h2⟩
      · exact ⟨e,.inr he,h⟩
    · rintro ⟨e,he|he,h⟩
      · subst he;rw [h2] at h;left;exact (Option.some.inj h.2).symm
      · exact .inr ⟨e,he,h⟩
def wC (listed:Array Bool) (pre suf:List aO):List Nat:=uD listed pre++uE listed suf
theorem tC.frame {S:Nat} {A:bK} {N:Nat} {K:Fr×St->Prop} {pre suf:List aO} {listed:Array Bool} {E:Env} {st:St} {w:World} {fr:Fr} {a:Act} (h:tC S A N K pre suf listed E st w fr a):
 aS E N (fr.jZ (wC listed pre suf)) a:=by
 refine ⟨h.size,fun t=>?_⟩
 rw [Fr.eC]
 split
 · exact .bL _
 · rename_i hm
   refine h.rel t (fun d hd hu KT=>hm (bU.2 (List.mem_append.2 (.inl (yL.2 ⟨d,hd,hu,KT⟩))))) fun d hd hu KT=>hm (bU.2 (List.mem_append.2 (.inr (yM.2 ⟨d,hd,hu,KT⟩))))
structure Ve (P:Program) (N:Nat) (ops:Array Oper) (d:aO) (o:Oper):Prop where
 at_:ops[d.ix]? =some o
 op:EM P o.op d.o.op=true
 dst:d.o.dst=o.dst
 lt:∀ n,o.dst=some n->n<N
 gd:j0 ops o.guard d.o.guard=true
 quiet:d.iN=false->gM d.o.op=true
 self:∀ n,d.o.dst=some n->n∉d.reads
structure Iv (P:Program) (N:Nat) (ops:Array Oper) (ds:List aO):Prop where
 md:P.follows .mixedOrders=true
 one:∀ d∈ds,∃ o,Ve P N ops d o
 pair:ds.Pairwise (sN ops)
 an9:∀ pre d suf,ds=pre++d::suf->∀ o,ops[d.ix]? =some o->∀ e∈o.after,Region.binds .any e=true->∃ p∈pre,p.ix=e.on
 nodup:(ds.map (·.ix)).Nodup
 all:∀ i,i<ops.size->∃ d∈ds,d.ix=i
theorem yN {ops:Array Oper} {listed:Array Bool} (sH:∀ i o,listed.getD i false=true->ops[i]? =some o->∀ e∈o.after,Region.binds .any e=true->listed.getD e.on false=true)
 {i j:Nat} (h:Rn ops i j) (hr:∀ o,ops[i]? =some o->∀ e∈o.after,Region.binds .any e=true->listed.getD e.on false=true):listed.getD j false=true:=by
 induction h with
 |an5 ho he hb=>exact hr _ ho _ he hb
 |far ho he hb _ ih=>exact ih fun o' ho'=>sH _ o' (hr _ ho _ he hb) ho'
theorem yO {listed:Array Bool} {d:aO} (h:Un listed d):listed.getD d.ix false=false:=by
 simp only [Un,Array.getD_eq_getD_getElem?] at h ⊢
 cases hq:listed[d.ix]? with
 |none=>rw [hq] at h;simp at h
 |some b=>rw [hq] at h;simpa using h
theorem bQ.Vf {E:Env} {st:St} {w:World} (h:bQ E st w) (g:Bool) (L:Loc) (o:Obj) (ho:Holds ((E.push g L fun _ _=>none).at (E.aK g)) w L o) (hap:∀ k,st.live k->(E.μ k).bI≠L.bI) (him:∀ j,E.I L.bI j=none):
 bQ (E.push g L fun _ _=>none) (st.push g o) w:=by
 have hle:E.Le (E.push g L fun _ _=>none):=Env.qJ _ _ _ _
 have fY:∀ k,(st.push g o).get k=if k=E.aK g then some o else st.get k:=fun k=>by rw [St.jT,h.aK]
 have iD:∀ k,(st.push g o).live k->k≠E.aK g->st.live k:=by
  rintro k ⟨x,hx⟩ dX
  rw [fY,if_neg dX] at hx
  exact ⟨x,hx⟩
 have Of:(E.push g L fun _ _=>none).μ (E.aK g)=L:=Env.e9 _ _ _ _
 have hI:∀ b j,(E.push g L fun _ _=>none).I b j=E.I b j:=fun b j=>by
  simp only [Env.push]
  cases E.I b j<;>rfl
 refine ⟨?_,?_,fun k hk=>?_,fun b j x hx=>?_,fun k x hk=>?_,fun k k' hk l5 dX=>?_,fun k hk j hj1 hj2=>?_⟩
 · have:=h.ng;cases g<;>simp [St.push,aC.push,Env.push,this]
 · have:=h.nl;cases g<;>simp [St.push,aC.push,Env.push,this]
 · by_cases dX:k=E.aK g
   · subst dX;exact Env.eI _ _ _ _
   · exact hle.has (h.j8 k (iD k hk dX))
 · rw [hI] at hx
   exact h.jR b j x hx
 · by_cases dX:k=E.aK g
   · subst dX
     rw [fY,if_pos rfl] at hk
     cases hk
     rw [Of];exact ho
   · have hl:=iD k ⟨x,hk⟩ dX
     rw [fY,if_neg dX] at hk
     rw [hle.loc k (h.j8 k hl)]
     exact (h.obj k x hk).rK (Env.jS hle k) rfl
 · by_cases h1:k=E.aK g
   · subst h1
     have h2:k'≠E.aK g:=fun e=>dX e.symm
     have hl:=iD k' l5 h2
     rw [Of,hle.loc k' (h.j8 k' hl)]
     exact fun e=>hap k' hl e.symm
   · have hl:=iD k hk h1
     by_cases h2:k'=E.aK g
     · subst h2
       rw [Of,hle.loc k (h.j8 k hl)]
       exact hap k hl
     · have yF:=iD k' l5 h2
       rw [hle.loc k (h.j8 k hl),hle.loc k' (h.j8 k' yF)]
       exact h.sep k k' hl yF dX
 · rw [hI]
   by_cases h1:k=E.aK g
   · subst h1
     rw [Of] at*
     exact him j
   · have hl:=iD k hk h1
     rw [hle.loc k (h.j8 k hl)] at*
     exact h.own k hl j hj1 hj2
theorem Ext.Vf {E0 E:Env} {st0 st:St} {w0 w:World} (hx:Ext E0 st0 w0 E st w) (h:bQ E st w) (g:Bool) (L:Loc) (o:Obj) (hb:w0.heap.size<=L.bI):Ext E0 st0 w0 (E.push g L fun _ _=>none) (st.push g o) w:=by
 have hle:E.Le (E.push g L fun _ _=>none):=Env.qJ _ _ _ _
 have fY:∀ k,(st.push g o).get k=if k=E.aK g then some o else st.get k:=fun k=>by rw [St.jT,h.aK]
 have iD:∀ k,(st.push g o).live k->k≠E.aK g->st.live k:=by
  rintro k ⟨x,hx⟩ dX
  rw [fY,if_neg dX] at hx
  exact ⟨x,hx⟩
 have hI:∀ b j,(E.push g L fun _ _=>none).I b j=E.I b j:=fun b j=>by
  simp only [Env.push]
  cases E.I b j<;>rfl
 refine ⟨hx.le.trans hle,hx.size,fun b j x hj=>?_,fun k hk he=>?_,fun k hk he=>?_,hx.same,hx.os,hx.out,hx.tape⟩
 · rw [hI] at hj
   exact hx.fX b j x hj
 · have dX:k≠E.aK g:=fun e=>E.jU g (e▸hx.le.has he)
   exact hx.fT k (iD k hk dX) he
 · by_cases h1:k=E.aK g
   · subst h1
     rw [Env.e9]
     exact .inl hb
   · have hl:=iD k hk h1
     rw [hle.loc k (h.j8 k hl)]
     exact hx.gG k hl he
theorem bQ.spare {E:Env} {st:St} {w w':World} (h:bQ E st w) {ob:Go.Obj} (hh:w'.heap=w.heap.push ob) (ho:qN w w'):bQ E st w'/\Ext E st w E st w':=by
 have hold:∀ b,b<w.heap.size->w'.heap[b]? =w.heap[b]? :=fun b hb=>by rw [hh,Array.getElem?_push,if_neg (by omega)]
 have aeC:∀ b j x,E.I b j=some x->b<w.heap.size:=by
  intro b j x hx
  have:=h.jR b j x hx
  simp only [bF] at this
  rcases Nat.lt_or_ge b w.heap.size with hl|hl
  · exact hl
  · simp [Array.getElem?_eq_none hl] at this
 refine ⟨⟨h.ng,h.nl,h.j8,fun b j x hx=>?_,fun k o hk=>(h.obj k o hk).rK (Env.jS (.refl E) k) (hold _ (h.lt ⟨o,hk⟩)),h.sep,h.own⟩,
  ⟨.refl E,by rw [hh];simp,fun _ _ _ h=>.inl h,fun _ h _=>h,fun k h _=>.inr ⟨k,h,rfl⟩,fun b hb _=>hold b hb,ho.os,ho.out,ho.tape⟩⟩
 have:=h.jR b j x hx
 simp only [bF,hold b (aeC b j x hx)] at*
 exact this
theorem tC.catch {S:Nat} {P:Program} {ops:Array Oper} {N:Nat} {K:Fr×St->Prop} {pre suf:List aO} {q:aO} {listed:Array Bool} {E:Env} {st:St} {w:World} {fr:Fr} {a:Act}
 (h:tC S (aE P) N K pre (q::suf) listed E st w fr a) (hp:∀ d∈pre,sN ops d q) (hps:∀ e∈suf,e.ix≠q.ix) (hpo:∀ d∈pre,d.iN=false->gM d.o.op=true) (hl:q.iN=true) (CF:¬Un listed q)
 (sH:∀ d∈pre,Un listed d->¬Rn ops q.ix d.ix):
 ∃ bV E' bA,tC S (aE P) N K (pre++[q]) suf listed E' bA w bV a/\∀ (E0:Env) (st0:St) (w0:World),w0.heap.size=S->Ext E0 st0 w0 E st w->Ext E0 st0 w0 E' bA w:=by
 obtain ⟨B,Vd,hB2⟩:=h.early
 have hE:=Vd q (.head _) CF
 obtain ⟨g,zero,cells,t,fz,Ip,hgd,aoA,Oh,jN,aoB,jW⟩:=hE.obj
 obtain ⟨done,EJ,Kx,dO⟩:=h.run
 simp only [gD] at dO
 obtain ⟨F9,KS,Dl⟩:=Dk dO
 replace Dl:=Dl.resolve_right fun hc=>by
  have hg:=hc.1
  rw [hgd] at hg
  simp [cI] at hg
 have hw:=Dl.2
 rw [T.wp_bind,Ip] at hw
 simp only [step,T.wp] at hw
 rw [Fr.bW] at hw
 have Dm:∀ p∈done,bZ p.ix q.re=true->gM p.o.op=true:=fun p hp' hm=>hpo p (EJ p hp') ((hp p (EJ p hp')).q hm).2
 obtain ⟨Ol,Q6⟩:=lM Dm hw
 have hL:∀ F:Env,Holds F w ⟨B q.ix,0,cells.size⟩ (.cs zero):=fun F=>⟨rfl,cells,t,fz,aoA,Oh,by simp [jN],Nat.le_refl _,fun j v hj=>by
  obtain ⟨x,hx,hr⟩:=(aoB F).get hj
  exact ⟨x,by simpa using hx,hr,jW j x hx⟩⟩
 have s1:=h.Ou.Vf g ⟨B q.ix,0,cells.size⟩ (.cs zero) (hL _) hE.apart hE.jR
 have hle:E.Le (E.push g ⟨B q.ix,0,cells.size⟩ fun _ _=>none):=Env.qJ _ _ _ _
 have fY:∀ t,(F9.next q.o.dst (.p (st.aK g) 0) []).get t=if q.o.dst=some t then .p (st.aK g) 0 else fr.get t:=fun t=>by rw [gY,KS]
 have P2:∀ (e:aO),e∈pre->Un listed e->∀ t,t∈e.reads\/e.o.dst=some t->fr.get t=(F9.next q.o.dst (.p (st.aK g) 0) []).get t:=by
  intro e he O0 t ht
  rw [fY,if_neg]
  intro hLt
  rcases (hp e he).w t hLt with this|this
  · rcases ht with ht|ht
    · exact this.1 ht
    · exact this.2 ht
  · exact sH e he O0 this.2
 have hI:∀ b j,(E.push g ⟨B q.ix,0,cells.size⟩ fun _ _=>none).I b j=E.I b j:=fun b j=>by
  simp only [Env.push]
  cases E.I b j<;>rfl
 refine ⟨_,_,_,⟨s1,h.size,fun t ht ht2=>?_,⟨B,fun d hd hu=>?_,fun d hd e he=>hB2 d (.tail _ hd) e (.tail _ he)⟩,fun e he hu=>?_,q::done,?_,?_,Ol⟩,fun E0 st0 w0 hS hx=>hx.Vf h.Ou g _ _ (by rw [hS];exact hE.size)⟩
 · rw [fY]
   by_cases P3:q.o.dst=some t
   · rw [if_pos P3,hE.ptr t P3]
     have:=Rel.p (E:=E.push g ⟨B q.ix,0,cells.size⟩ fun _ _=>none) (st.aK g) 0 (by rw [h.Ou.aK];exact Env.eI _ _ _ _)
     rw [h.Ou.aK,Env.e9] at this
     rw [h.Ou.aK]
     exact this
   · rw [if_neg P3]
     refine (h.rel t (fun d hd=>ht d (List.mem_append_left _ hd)) fun d hd hu=>?_).mono hle
     rcases List.mem_cons.1 hd with rfl|hd
     · exact P3
     · exact ht2 d hd hu
 · have hd':=Vd d (.tail _ hd) hu
   refine ⟨hd'.size,hd'.ptr,hd'.obj,fun k hk=>?_,fun o=>by rw [hI];exact hd'.jR o⟩
   by_cases h1:k=E.aK g
   · subst h1
     rw [Env.e9]
     intro e
     exact hps d hd (hB2 q (.head _) d (.tail _ hd) CF hu e).symm
   · obtain ⟨x,hx⟩:=hk
     rw [St.jT,h.Ou.aK,if_neg h1] at hx
     rw [hle.loc k (h.Ou.j8 k ⟨x,hx⟩)]
     exact hd'.apart k ⟨x,hx⟩
 · rw [List.mem_append,List.mem_singleton] at he
   rcases he with he|rfl
   · obtain ⟨hv1,hv2⟩:=h.Iu e he hu
     refine ⟨hv1,?_⟩
     have hv':=hv2.congr (P2 e he hu)
     rcases (hp e he).s hl hv1 with hA|hA|hA
     · exact absurd hA (sH e he hu)
     · exact hv'.pure hA _
     · rcases hv' with ⟨g1,_⟩|g
       · exact .inl ⟨g1,Q6 e (Kx e he) hA g1⟩
       · exact .inr g
   · exact absurd hu CF
 · intro y hy
   rcases List.mem_cons.1 hy with rfl|hy
   · simp
   · simp [EJ y hy]
 · intro y hy
   rw [List.mem_append,List.mem_singleton] at hy
   rcases hy with hy|rfl
   · exact .tail _ (Kx y hy)
   · exact .head _
theorem tC.normal {P:Program} {ops:Array Oper} {N:Nat} {K:Fr×St->Prop} {listed:Array Bool} {E0:Env} {st0:St} {w0 w:World} {a:Act} (yP:listed.size=ops.size) (sH:∀ i o,listed.getD i false=true->ops[i]? =some o->∀ e∈o.after,Region.binds .any e=true->listed.getD e.on false=true):∀ {suf pre:List aO} {fr:Fr} {E:Env} {st:St},
 tC w0.heap.size (aE P) N K pre suf listed E st w fr a->Ext E0 st0 w0 E st w->(pre++suf).Pairwise (sN ops)->((pre++suf).map (·.ix)).Nodup->(∀ d∈pre++suf,∃ o,Ve P N ops d o)->
 ∃ KU Iw bV E' bA,KU++Iw=pre++suf/\tC w0.heap.size (aE P) N K KU Iw listed E' bA w bV a/\Ext E0 st0 w0 E' bA w/\∀ d r,Iw=d::r->d.iN=true/\Un listed d
 |[],pre,fr,E,st,h,hx,_,_,_=>⟨pre,[],fr,E,st,rfl,h,hx,fun d r hd=>by cases hd⟩
 |q::suf,pre,fr,E,st,h,hx,hp,hn,ho=>by
  have e:pre++[q]++suf=pre++q::suf:=by simp
  have hpq:∀ d∈pre,sN ops d q:=fun d hd=>(List.pairwise_append.1 hp).2.2 d hd q (.head _)
  obtain ⟨o,hq⟩:=ho q (by simp)
  by_cases hu:Un listed q
  · cases hl:q.iN with
    |true=>exact ⟨pre,q::suf,fr,E,st,rfl,h,hx,fun d r hd=>by cases hd;exact ⟨hl,hu⟩⟩
    |false=>
     obtain ⟨bV,h'⟩:=h.advance hpq hu hl (hq.quiet hl) hq.self
     obtain ⟨KU,Iw,fr2,E2,PZ,e2,h2,h3,h4⟩:=tC.normal yP sH h' hx (by rw [e];exact hp) (by rw [e];exact hn) (by rw [e];exact ho)
     exact ⟨KU,Iw,fr2,E2,PZ,e2.trans e,h2,h3,h4⟩
  · have hl:q.iN=true:=by
     cases hl:q.iN with
     |true=>rfl
     |false=>
      obtain ⟨B,Vd,_⟩:=h.early
      obtain ⟨g,zero,cells,t,fz,Ip,_⟩:=(Vd q (.head _) hu).obj
      have:=hq.quiet hl
      rw [Ip] at this
      cases this
    have hqt:listed.getD q.ix false=true:=by
     have dZ:=(Array.getElem?_eq_some_iff.1 hq.at_).1
     rw [<-yP] at dZ
     simp only [Un,Array.getD_eq_getD_getElem?,Array.getElem?_eq_getElem dZ] at hu ⊢
     simpa using hu
    obtain ⟨bV,E',bA,h',hx'⟩:=h.catch hpq (fun e he rM=>by
     rw [List.map_append,List.nodup_append] at hn
     have:=hn.2.1
     rw [List.map_cons,List.nodup_cons] at this
     exact this.1 (rM▸List.mem_map_of_mem he)) (fun d hd hdl=>by
     obtain ⟨od,hod⟩:=ho d (List.mem_append_left _ hd)
     exact hod.quiet hdl) hl hu (fun d hd hdu hA=>by
     have:=yN sH hA (fun o1 OD=>sH _ o1 hqt OD)
     rw [yO hdu] at this
     cases this)
    obtain ⟨KU,Iw,fr2,E2,PZ,e2,h2,h3,h4⟩:=tC.normal yP sH h' (hx' E0 st0 w0 rfl hx) (by rw [e];exact hp) (by rw [e];exact hn) (by rw [e];exact ho)
    exact ⟨KU,Iw,fr2,E2,PZ,e2.trans e,h2,h3,h4⟩
section
variable {P:Program} {ops:Array Oper} {N:Nat} {K:Fr×St->Prop} {Q:Exit->Act->World->Prop}
theorem Vg {listed:Array Bool} {d e:aO} (h:Un (listed.setIfInBounds d.ix true) e) (hd:d.ix<listed.size):Un listed e/\e.ix≠d.ix:=by
 simp only [Un,Array.getD_eq_getD_getElem?] at h ⊢
 by_cases hi:d.ix=e.ix
 · rw [hi] at h hd
   simp [hd] at h
 · rw [Array.getElem?_setIfInBounds_ne hi] at h
   exact ⟨h,fun e=>hi e.symm⟩
theorem CG {listed:Array Bool} {d e:aO} (h:Un listed e) (hi:e.ix≠d.ix):Un (listed.setIfInBounds d.ix true) e:=by
 simp only [Un,Array.getD_eq_getD_getElem?] at h ⊢
 rw [Array.getElem?_setIfInBounds_ne (fun e=>hi e.symm)]
 exact h
theorem pB {a:Act} {dst:Option Nat} {x:Value} {t:Nat} (h:dst≠some t):(a.put dst x).tmps.getD t undef=a.tmps.getD t undef:=by
 cases dst with
 |none=>rfl
 |some d=>
  have:d≠t:=fun e=>h (by rw [e])
  simp only [Act.put,Array.getD_eq_getD_getElem?]
  rw [Array.getElem?_setIfInBounds_ne this]
theorem iR {a:Act} {d:Nat} {x:Value} (h:d<a.tmps.size):(a.put (some d) x).tmps.getD d undef=x:=by
 simp [Act.put,Array.getD_eq_getD_getElem?,h]
theorem pC (a:Act) (dst:Option Nat) (x:Value):(a.put dst x).tmps.size=a.tmps.size:=by cases dst<;>simp [Act.put]
end
section
variable {P:Program} {ops:Array Oper} {N:Nat} {K:Fr×St->Prop} {Q:Exit->Act->World->Prop}
structure Vh (S:Nat) (P:Program) (N:Nat) (K:Fr×St->Prop) (ds:List aO) (listed:Array Bool) (E:Env) (st:St) (w:World) (a:Act) (a':Act) (w':World):Prop where
 ex:∃ pre suf bV bA E',pre++suf=ds/\tC S (aE P) N K pre suf listed E' bA w' bV a'/\Ext E st w E' bA w'/\a'.defers=a.defers
theorem BJ {d:aO} (h:uC d=true):∃ g zero,d.o.op=.alloc g zero/\d.o.guard=none/\d.iN=true:=by
 unfold uC at h
 split at h
 · rename_i g zero h1 h2
   exact ⟨g,zero,h1,h2,h⟩
 · cases h
theorem Ix {d:aO} (h:uC d=true):d.reads=[]:=by
 obtain ⟨g,zero,h1,h2,_⟩:=BJ h
 unfold aO.reads
 rw [h1,h2]
 rfl
theorem Ro {S:Nat} {ds pre suf:List aO} {listed:Array Bool} {E:Env} {st:St} {w:World} {fr:Fr} {a:Act} (hd:Iv P N ops ds) (iV:pre++suf=ds) (h:tC S (aE P) N K pre suf listed E st w fr a)
 (hS:S<=w.heap.size) (x6:∀ d r,suf=d::r->d.iN=true/\Un listed d) (yP:listed.size=ops.size)
 (sH:∀ i o,listed.getD i false=true->ops[i]? =some o->∀ e∈o.after,Region.binds .any e=true->listed.getD e.on false=true)
 {i:Nat} (hr:i∈Region.ready .any ops listed):wpOp P ops Q i (Vh S P N K ds (listed.setIfInBounds i true) E st w a) a w:=by
 obtain ⟨EP,o,ho,Dp⟩:=mem_ready.1 hr
 have dZ:i<ops.size:=(Array.getElem?_eq_some_iff.1 ho).1
 obtain ⟨d,Ga,rfl⟩:=hd.all i dZ
 obtain ⟨o',jW⟩:=hd.one d Ga
 have:o'=o:=by have:=jW.at_;rw [ho] at this;exact (Option.some.inj this).symm
 subst this
 have Vi:∀ j,Rn ops d.ix j->listed.getD j false=true:=fun j hj=>yN sH hj (fun o1 h1=>by rw [ho] at h1;cases h1;exact Dp)
 -- OM it looks at is there
 have aoC:d∈pre\/d∈suf:=by rw [<-iV] at Ga;exact List.mem_append.1 Ga
 have hpw:=hd.pair
 rw [<-iV] at hpw
 have KV:=List.pairwise_append.1 hpw
 have Vj:∀ e∈ds,¬Un listed e->listed.getD e.ix false=true:=by
  intro e he CF
  obtain ⟨oe,hoe⟩:=hd.one e he
  have aeT:=(Array.getElem?_eq_some_iff.1 hoe.at_).1
  rw [<-yP] at aeT
  simp only [Un,Array.getD_eq_getD_getElem?,Array.getElem?_eq_getElem aeT] at CF ⊢
  simpa using CF
 -- who was made ahead of its aeU waits for OZ aeF is still to aCw
 have Iy:∀ e∈suf,¬Un listed e->¬Rn ops e.ix d.ix:=by
  intro e he CF hA
  have:=yN sH hA (fun o1 OD=>sH _ o1 (Vj e (by rw [<-iV];exact List.mem_append_right _ he) CF) OD)
  rw [yO EP] at this
  cases this
 have ai8:∀ n∈d.reads,n∉wC listed pre suf:=by
  intro n hn hm
  rcases List.mem_append.1 hm with hm|hm
  case inr=>
   obtain ⟨e,hes,CF,U2⟩:=yM.1 hm
   have he:e∈ds:=by rw [<-iV];exact List.mem_append_right _ hes
   have hw:sN ops d e->False:=fun hpr=>by
    rcases hpr.w n U2 with h1|h1
    · exact h1.1 hn
    · exact Iy e hes CF h1.2
   rcases aoC with hp|hp
   · exact hw (KV.2.2 d hp e hes)
   · cases suf with
     |nil=>cases hp
     |cons L r=>
      have hL:=x6 L r rfl
      rcases List.mem_cons.1 hes with rfl|her
      · exact CF hL.2
      rcases List.mem_cons.1 hp with rfl|hp
      · exact hw ((List.pairwise_cons.1 KV.2.1).1 e her)
      · rcases ((List.pairwise_cons.1 KV.2.1).1 d hp).l hL.1 with hA|hF
        · have h1:=Vi _ hA
          rw [yO hL.2] at h1;cases h1
        · rw [Ix hF] at hn
          cases hn
  obtain ⟨e,hep,O0,U2⟩:=yL.1 hm
  have he:e∈ds:=by rw [<-iV];exact List.mem_append_left _ hep
  by_cases hde:e=d
  · subst hde;exact jW.self n U2 hn
  · rcases List.pairwise_iff_getElem.1 hd.pair with hpw
    obtain ⟨x,hx,Vk⟩:=List.getElem_of_mem he
    obtain ⟨y,hy,Vl⟩:=List.getElem_of_mem Ga
    rcases Nat.lt_trichotomy x y with KW|KW|KW
    · have:=hpw x y hx hy KW
      rw [Vk,Vl] at this
      have h1:=Vi _ (this.r n U2 hn)
      rw [yO O0] at h1;cases h1
    · subst KW;exact hde (Vk.symm.trans Vl)
    · have:=hpw y x hy hx KW
      rw [Vk,Vl] at this
      rcases this.w n U2 with h1|h1
      · exact h1.1 hn
      · rw [(h.Iu e hep O0).1] at h1;cases h1.1
 have uB:=h.frame
 have qK:∀ t∈d.reads,(fr.jZ (wC listed pre suf)).get t=fr.get t:=fun t ht=>by
  rw [Fr.eC,if_neg (fun hm=>ai8 t ht (bU.1 hm))]
 have hgate:cI d.o.guard (fr.jZ (wC listed pre suf))=cI d.o.guard fr:=qX fun t ht=>qK t (List.mem_append_left _ ht)
 have ahO:∀ s,step d.o.op (fr.jZ (wC listed pre suf)) s=step d.o.op fr s:=fun s=>iX (fun t ht=>qK t (List.mem_append_right _ ht)) s
 have hdu:Un listed d:=EP
 have Vm:∀ e∈ds,e.ix=d.ix->e=d:=by
  intro e he rM
  obtain ⟨x,hx,Vk⟩:=List.getElem_of_mem he
  obtain ⟨y,hy,Vl⟩:=List.getElem_of_mem Ga
  have hpw:=List.pairwise_iff_getElem.1 (List.pairwise_map.1 hd.nodup)
  rcases Nat.lt_trichotomy x y with KW|KW|KW
  · have:=hpw x y hx hy KW
    rw [Vk,Vl] at this
    exact absurd rM this
  · subst KW
    exact Vk.symm.trans Vl
  · have:=hpw y x hy hx KW
    rw [Vk,Vl] at this
    exact absurd rM.symm this
 have aoD:∀ n,d.o.dst=some n->n<a.tmps.size:=fun n hn=>by rw [h.size];exact jW.lt n (jW.dst▸hn)
 -- Og aZ behind it
 have aoE:∀ e,¬Un listed e->¬Un (listed.setIfInBounds d.ix true) e:=fun e he hu=>he (Vg hu (by rw [yP];exact dZ)).1
 have l7:∀ {E':Env} {v:V} {x:Value} {bV:Fr} {pp sf:List aO},(∀ e∈pre,e∈pp)->(∀ e∈suf,¬Un listed e->e∈sf)->E.Le E'->Rel E' v x->(∀ t,bV.get t=if d.o.dst=some t then v else fr.get t)->
  ∀ t,(∀ e∈pp,Un (listed.setIfInBounds d.ix true) e->e.o.dst≠some t)->(∀ e∈sf,¬Un (listed.setIfInBounds d.ix true) e->e.o.dst≠some t)->Rel E' (bV.get t) ((a.put o'.dst x).tmps.getD t undef):=by
  intro E' v x bV pp sf hpp hsf hle AY fY t ht ht2
  rw [fY,<-jW.dst]
  by_cases P3:d.o.dst=some t
  · rw [if_pos P3,P3,iR (aoD t P3)]
    exact AY
  · rw [if_neg P3,pB P3]
    refine (h.rel t (fun e he O0 Oo=>?_) fun e he O0=>ht2 e (hsf e he O0) (aoE e O0)).mono hle
    have axV:e∈ds:=by rw [<-iV];exact List.mem_append_left _ he
    by_cases rM:e.ix=d.ix
    · exact P3 (Vm e axV rM▸Oo)
    · exact ht e (hpp e he) (CG O0 rM) Oo
 have Iz:∀ e,Un (listed.setIfInBounds d.ix true) e->Un listed e/\e.ix≠d.ix:=fun e he=>Vg he (by rw [yP];exact dZ)
 -- who was made ahead of its aeU stays aEo it is
 have ahP:∀ {E':Env} {bA:St} {w':World} {x:Value} {sf:List aO},Ext E st w E' bA w'->(∀ e∈sf,e∈suf/\e.ix≠d.ix)->(∀ e∈suf,¬Un listed e->∀ n,e.o.dst=some n->d.o.dst≠some n)->
  ∃ B:Nat->Nat,(∀ e∈sf,¬Un (listed.setIfInBounds d.ix true) e->Ap S E' bA w' (a.put o'.dst x) e (B e.ix))/\∀ e∈sf,∀ e'∈sf,¬Un (listed.setIfInBounds d.ix true) e->¬Un (listed.setIfInBounds d.ix true) e'->B e.ix=B e'.ix->e.ix=e'.ix:=by
  intro E' bA w' x sf hx hsf KT
  obtain ⟨B,Vd,hB2⟩:=h.early
  have CF:∀ e∈sf,¬Un (listed.setIfInBounds d.ix true) e->¬Un listed e:=fun e he hu U6=>hu (CG U6 (hsf e he).2)
  refine ⟨B,fun e he hu=>(Vd e (hsf e he).1 (CF e he hu)).step hx fun n hn=>?_,fun e he e' Kp hu hu'=>hB2 e (hsf e he).1 e' (hsf e' Kp).1 (CF e he hu) (CF e' Kp hu')⟩
  rw [<-jW.dst]
  exact pB (KT e (hsf e he).1 (CF e he hu) n hn)
 rcases aoC with hp|hp
 · -- a quiet one,aeF Og frame aBk awB
   obtain ⟨hl,hv⟩:=h.Iu d hp hdu
   have build:∀ {E':Env} {w':World} {v:V} {x:Value},bQ E' st w'->Ext E st w E' st w'->Rel E' v x->(∀ n,d.o.dst=some n->fr.get n=v)->Vh S P N K ds (listed.setIfInBounds d.ix true) E st w a (a.put o'.dst x) w':=by
    intro E' w' v x s1 s2 hr hn
    refine ⟨pre,suf,fr,st,E',iV,⟨s1,by rw [pC];exact h.size,?_,?_,?_,h.run⟩,s2,put_defers _ _ _⟩
    · refine l7 (fun e he=>he) (fun e he _=>he) s2.le hr fun t=>?_
      by_cases ht:d.o.dst=some t
      · rw [if_pos ht];exact hn t ht
      · rw [if_neg ht]
    · refine ahP s2 (fun e he=>⟨he,fun rM=>?_⟩) fun e he CF n mQ=>?_
      · have hnd:=hd.nodup
        rw [<-iV,List.map_append,List.nodup_append] at hnd
        exact hnd.2.2 _ (List.mem_map_of_mem hp) _ (List.mem_map_of_mem he) rM.symm
      · rcases (KV.2.2 d hp e he).w n mQ with h1|h1
        · exact h1.2
        · exact absurd h1.2 (Iy e he CF)
    · intro e he hu
      exact h.Iu e he (Iz e hu).1
   unfold wpOp
   simp only [ho]
   rcases hv with ⟨h1,v,hy,hn⟩|⟨h1,hn⟩
   · rw [if_pos (lV jW.gd uB (hgate.trans h1))]
     refine .inl (step_ok jW.op h.Ou uB (K:=fun r=>r=(v,st)) (by rw [ahO];exact hy _ rfl) ?_)
     intro v' bA E' w' x hk s1 s2 hr
     cases hk
     exact build s1 s2 hr hn
   · rw [if_neg (by rw [lV jW.gd uB (hgate.trans h1)];simp)]
     exact build h.Ou (.refl _ _ _) e8 hn
 · -- Og next iN one
   obtain ⟨L,r,ajA⟩:∃ L r,suf=L::r:=by
    cases suf with
    |nil=>cases hp
    |cons L r=>exact ⟨L,r,rfl⟩
   subst ajA
   have hL:=(x6 L r rfl).1
   have hLu:=(x6 L r rfl).2
   have hnd:=hd.nodup
   rw [<-iV,List.map_append,List.nodup_append] at hnd
   have aoF:=hnd.2.1
   rw [List.map_cons,List.nodup_cons] at aoF
   by_cases hLd:L=d
   case neg=>
    -- a new object,made ahead of its aeU
    have hp:d∈r:=by
     rcases List.mem_cons.1 hp with hp|hp
     · exact absurd hp.symm hLd
     · exact hp
    have hF:uC d=true:=by
     rcases ((List.pairwise_cons.1 KV.2.1).1 d hp).l hL with hA|hF
     · have h1:=Vi _ hA
       rw [yO hLu] at h1;cases h1
     · exact hF
    obtain ⟨g,zero,Ip,hgd,_⟩:=BJ hF
    have Eu:=jW.op
    rw [Ip] at Eu
    obtain ⟨ty,hot,hz⟩:∃ ty,o'.op=.alloc ty/\jX P ty zero=true:=by
     simp only [EM] at Eu
     split at Eu
     · exact ⟨_,by assumption,Eu⟩
     · cases Eu
    obtain ⟨ti,z,hi,CX,jN,hzr,hl,h1⟩:=gV hz
    have hgw:cI d.o.guard (fr.jZ (wC listed pre (L::r)))=some true:=by rw [hgd];rfl
    unfold wpOp
    simp only [ho]
    rw [if_pos (lV jW.gd uB hgw)]
    refine .inl (aP (x:=.pointer (some ⟨w.heap.size,0,none⟩)) (by simp [execOp,hot,Instr.alloc,iQ hi CX,newVar,newRow]) (w':=w.alloc (.cells z.cells ty)) ?_)
    obtain ⟨s1,s2⟩:=h.Ou.spare (w':=w.alloc (.cells z.cells ty)) (ob:=.cells z.cells ty) rfl ⟨rfl,rfl,rfl⟩
    obtain ⟨B,Vd,hB2⟩:=h.early
    have aoG:∀ e∈L::r,¬Un listed e->B e.ix<w.heap.size:=fun e he hu=>by
     obtain ⟨_,_,cells,t,fz,_,_,h3,_⟩:=(Vd e he hu).obj
     exact (Array.getElem?_eq_some_iff.1 h3).1
    have KX:∀ e∈L::r,¬Un (listed.setIfInBounds d.ix true) e->e.ix=d.ix\/¬Un listed e:=fun e he hu=>by
     by_cases rM:e.ix=d.ix
     · exact .inl rM
     · exact .inr fun U6=>hu (CG U6 rM)
    refine ⟨pre,L::r,fr,st,E,iV,⟨s1,by rw [pC];exact h.size,fun t ht ht2=>?_,⟨fun i=>if i=d.ix then w.heap.size else B i,fun e he hu=>?_,fun e he e' Kp hu hu' Oo=>?_⟩,fun e he hu=>h.Iu e he (Iz e hu).1,h.run⟩,s2,put_defers _ _ _⟩
    · have P3:d.o.dst≠some t:=ht2 d (.tail _ hp) fun hu=>(Iz d hu).2 rfl
      rw [<-jW.dst,pB P3]
      refine h.rel t (fun e he O0 Oo=>ht e he (CG O0 fun rM=>?_) Oo) fun e he O0=>ht2 e he (aoE e O0)
      exact P3 (Vm e (by rw [<-iV];exact List.mem_append_left _ he) rM▸Oo)
    · by_cases rM:e.ix=d.ix
      · have U2:=Vm e (by rw [<-iV];exact List.mem_append_right _ he) rM
        subst U2
        dsimp only
        rw [if_pos rfl]
        refine ⟨hS,fun n hn=>?_,⟨g,zero,z.cells,ty,(0,0),Ip,hgd,(by show (w.heap.push _)[w.heap.size]? =_;simp),.inl rfl,by omega,hzr,h1⟩,fun k hk=>?_,fun ob=>?_⟩
        · rw [<-jW.dst,hn,iR (aoD n hn)]
        · have:=h.Ou.lt hk
          omega
        · cases hI:E.I w.heap.size ob with
          |none=>rfl
          |some x=>
           have:=h.Ou.jR _ _ _ hI
           simp [bF] at this
      · have U6:=(KX e he hu).resolve_left rM
        dsimp only
        rw [if_neg rM]
        refine (Vd e he U6).step s2 fun n hn=>?_
        rw [<-jW.dst]
        refine pB fun hdn=>?_
        have dX:e≠d:=fun e2=>rM (by rw [e2])
        rcases List.mem_cons.1 he with rfl|her
        · exact U6 hLu
        · have aoH:=List.pairwise_iff_getElem.1 (List.pairwise_cons.1 KV.2.1).2
          obtain ⟨x,hx,Vk⟩:=List.getElem_of_mem her
          obtain ⟨y,hy,Vl⟩:=List.getElem_of_mem hp
          rcases Nat.lt_trichotomy x y with KW|KW|KW
          · have:=aoH x y hx hy KW
            rw [Vk,Vl] at this
            exact this.f hF n hdn hn
          · subst KW
            exact dX (Vk.symm.trans Vl)
          · have:=aoH y x hy hx KW
            rw [Vk,Vl] at this
            rcases this.w n hn with h2|h2
            · exact h2.2 hdn
            · exact Iy e (.tail _ her) U6 h2.2
    · dsimp only at Oo
      by_cases h1:e.ix=d.ix
      · by_cases h2:e'.ix=d.ix
        · rw [h1,h2]
        · rw [if_pos h1,if_neg h2] at Oo
          have:=aoG e' Kp ((KX e' Kp hu').resolve_left h2)
          omega
      · by_cases h2:e'.ix=d.ix
        · rw [if_neg h1,if_pos h2] at Oo
          have:=aoG e he ((KX e he hu).resolve_left h1)
          omega
        · rw [if_neg h1,if_neg h2] at Oo
          exact hB2 e he e' Kp ((KX e he hu).resolve_left h1) ((KX e' Kp hu').resolve_left h2) Oo
   subst hLd
   have Vn:∀ e∈pre,sN ops e L:=fun e he=>KV.2.2 e he L (.head _)
   obtain ⟨done,EJ,Kx,dO⟩:=h.run
   simp only [gD] at dO
   obtain ⟨F9,KS,Dl⟩:=Dk dO
   have build:∀ {E':Env} {bA:St} {w':World} {v:V} {x:Value},bQ E' bA w'->Ext E st w E' bA w'->Rel E' v x->(∀ e∈pre,Un listed e->KQ (aE P) e (F9.next L.o.dst v []) bA)->
    (gD (L::done) r (F9.next L.o.dst v []) bA).wp (aE P) K->Vh S P N K ds (listed.setIfInBounds L.ix true) E st w a (a.put o'.dst x) w':=by
    intro E' bA w' v x s1 s2 hr hv hw
    have axW:pre++[L]++r=ds:=by rw [<-iV];simp
    have fY:∀ t,(F9.next L.o.dst v []).get t=if L.o.dst=some t then v else fr.get t:=fun t=>by rw [gY,KS]
    refine ⟨pre++[L],r,F9.next L.o.dst v [],bA,E',axW,⟨s1,by rw [pC];exact h.size,?_,?_,?_,L::done,?_,?_,hw⟩,s2,put_defers _ _ _⟩
    · refine l7 (fun e he=>List.mem_append_left _ he) (fun e he hu=>?_) s2.le hr fY
      rcases List.mem_cons.1 he with rfl|he
      · exact absurd hLu hu
      · exact he
    · refine ahP s2 (fun e he=>⟨.tail _ he,fun rM=>aoF.1 (rM▸List.mem_map_of_mem he)⟩) fun e he CF n mQ=>?_
      rcases List.mem_cons.1 he with rfl|he
      · exact absurd hLu CF
      · rcases ((List.pairwise_cons.1 KV.2.1).1 e he).w n mQ with h1|h1
        · exact h1.2
        · exact absurd h1.2 (Iy e (.tail _ he) CF)
    · intro e he hu
      obtain ⟨hu1,U6⟩:=Iz e hu
      rw [List.mem_append,List.mem_singleton] at he
      rcases he with he|rfl
      · exact ⟨(h.Iu e he hu1).1,hv e he hu1⟩
      · exact absurd rfl U6
    · intro y hy
      rcases List.mem_cons.1 hy with rfl|hy
      · simp
      · simp [EJ y hy]
    · intro y hy
      rw [List.mem_append,List.mem_singleton] at hy
      rcases hy with hy|rfl
      · exact .tail _ (Kx y hy)
      · exact .head _
   -- OM is known of Og frame holds on behind it
   have P2:∀ (v:V) (e:aO),e∈pre->Un listed e->∀ t,t∈e.reads\/e.o.dst=some t->fr.get t=(F9.next L.o.dst v []).get t:=by
    intro v e he O0 t ht
    rw [gY,KS,if_neg]
    intro hLt
    rcases (Vn e he).w t hLt with this|this
    · rcases ht with ht|ht
      · exact this.1 ht
      · exact this.2 ht
    · have h1:=Vi _ this.2
      rw [yO O0] at h1;cases h1
   unfold wpOp
   simp only [ho]
   rcases Dl with ⟨hg,hw⟩|⟨hg,hw⟩
   · rw [if_pos (lV jW.gd uB (hgate.trans hg))]
     rw [T.wp_bind] at hw
     have Ev:step L.o.op F9 st=step L.o.op fr st:=iX (fun t _=>KS t) st
     rw [Ev,<-ahO] at hw
     refine .inl (step_ok jW.op h.Ou uB hw ?_)
     intro v bA E' w' x hk s1 s2 hr
     dsimp only at hk
     rw [Fr.bW] at hk
     have Dm:∀ p∈done,bZ p.ix L.re=true->gM p.o.op=true:=fun p hp' hm=>by
      have hpp:=EJ p hp'
      obtain ⟨op,Ip⟩:=hd.one p (by rw [<-iV];exact List.mem_append_left _ hpp)
      exact Ip.quiet ((Vn p hpp).q hm).2
     obtain ⟨Ol,Q6⟩:=lM Dm hk
     refine build s1 s2 hr (fun e he hu=>?_) Ol
     obtain ⟨hl,hv⟩:=h.Iu e he hu
     have hv':=hv.congr (P2 v e he hu)
     rcases (Vn e he).s hL hl with hA|hA|hA
     · have h1:=Vi _ hA
       rw [yO hu] at h1;cases h1
     · exact hv'.pure hA bA
     · rcases hv' with ⟨g1,_⟩|g
       · exact .inl ⟨g1,Q6 e (Kx e he) hA g1⟩
       · exact .inr g
   · rw [if_neg (by rw [lV jW.gd uB (hgate.trans hg)];simp)]
     rw [Fr.bW] at hw
     exact build h.Ou (.refl _ _ _) e8 (fun e he hu=>(h.Iu e he hu).2.congr (P2 _ e he hu)) hw
end
section
variable {P:Program} {ops:Array Oper} {N:Nat} {K:Fr×St->Prop} {Q:Exit->Act->World->Prop}
def fK (listed:Array Bool):List aO->Nat
 |[]=>0
 |d::r=>(match listed.getD d.ix true with|false=>1|true=>0)+fK listed r
theorem sO {listed:Array Bool}:∀ {l:List aO},fK listed l=0->∀ d∈l,¬Un listed d
 |[],_,d,hd=>by cases hd
 |e::r,h,d,hd=>by
  simp only [fK] at h
  have h1:(match listed.getD e.ix true with|false=>1|true=>0)=0:=by omega
  rcases List.mem_cons.1 hd with rfl|hd
  · intro hu
    simp only [Un] at hu
    rw [hu] at h1;simp at h1
  · exact sO (by omega) d hd
end
section
variable {P:Program} {ops:Array Oper} {N:Nat} {K:Fr×St->Prop} {Q:Exit->Act->World->Prop}
theorem x7 {listed:Array Bool} {i:Nat}:∀ {l:List aO},(∀ d∈l,d.ix≠i)->fK (listed.setIfInBounds i true) l=fK listed l
 |[],_=>rfl
 |d::r,h=>by
  have hd:(listed.setIfInBounds i true).getD d.ix true=listed.getD d.ix true:=by
   simp only [Array.getD_eq_getD_getElem?]
   rw [Array.getElem?_setIfInBounds_ne (fun e=>h d (.head _) e.symm)]
  simp only [fK,hd,x7 (fun e he=>h e (.tail _ he))]
theorem uF {listed:Array Bool} {d:aO} (dZ:d.ix<listed.size) (hu:Un listed d):∀ {l:List aO},(l.map (·.ix)).Nodup->d∈l->fK (listed.setIfInBounds d.ix true) l+1=fK listed l
 |[],_,h=>by cases h
 |e::r,hn,h=>by
  rw [List.map_cons,List.nodup_cons] at hn
  rcases List.mem_cons.1 h with rfl|h
  · have hs:(listed.setIfInBounds d.ix true).getD d.ix true=true:=by simp [Array.getD_eq_getD_getElem?,dZ]
    have ho:fK (listed.setIfInBounds d.ix true) r=fK listed r:=x7 fun e he rM=>hn.1 (rM▸List.mem_map_of_mem he)
    simp only [Un] at hu
    simp only [fK,hs,hu,ho]
    omega
  · have dX:e.ix≠d.ix:=fun rM=>hn.1 (rM▸List.mem_map_of_mem h)
    have he:(listed.setIfInBounds d.ix true).getD e.ix true=listed.getD e.ix true:=by
     simp only [Array.getD_eq_getD_getElem?]
     rw [Array.getElem?_setIfInBounds_ne (fun q=>dX q.symm)]
    have ih:=uF dZ hu hn.2 h
    simp only [fK,he]
    omega
theorem BK {ds:List aO} (hd:Iv P N ops ds) {listed:Array Bool} (yP:listed.size=ops.size) (hr:Region.ready .any ops listed=[]):∀ (pre suf:List aO),ds=pre++suf->(∀ d∈pre,¬Un listed d)->∀ d∈ds,¬Un listed d
 |pre,[],h,hp=>fun d Ga=>hp d (by rw [h] at Ga;simpa using Ga)
 |pre,d::suf,h,hp=>by
  refine BK hd yP hr (pre++[d]) suf (by rw [h];simp) fun e he=>?_
  rw [List.mem_append,List.mem_singleton] at he
  rcases he with he|rfl
  · exact hp e he
  · intro hu
    obtain ⟨o,ho⟩:=hd.one e (by rw [h];simp)
    have:e.ix∈Region.ready .any ops listed:=mem_ready.2 ⟨hu,o,ho.at_,fun ed U2 hb=>by
     obtain ⟨p,hpm,hpi⟩:=hd.an9 pre e suf h o ho.at_ ed U2 hb
     have:=hp p hpm
     rw [<-hpi]
     simp only [Un,Array.getD_eq_getD_getElem?] at this ⊢
     cases hq:listed[p.ix]? with
     |none=>
      obtain ⟨op,Ip⟩:=hd.one p (by rw [h];exact List.mem_append_left _ hpm)
      have h1:=(Array.getElem?_eq_some_iff.1 Ip.at_).1
      have h2:=Array.getElem?_eq_none_iff.1 hq
      omega
     |some b=>rw [hq] at this;simp at this ⊢;exact this⟩
    rw [hr] at this;cases this
end
section
variable {P:Program} {ops:Array Oper} {N:Nat} {K:Fr×St->Prop} {Q:Exit->Act->World->Prop}
theorem Vo {ds:List aO} (hd:Iv P N ops ds) {E0:Env} {st0:St} {w0:World} {a0:Act}
 (hQ:∀ fr st E a w,K (fr,st)->bQ E st w->Ext E0 st0 w0 E st w->aS E N fr a->a.defers=a0.defers->Q .normal a w):
 ∀ (fuel:Nat) {pre suf:List aO} {listed:Array Bool} {E:Env} {st:St} {w:World} {fr:Fr} {a:Act},pre++suf=ds->tC w0.heap.size (aE P) N K pre suf listed E st w fr a->Ext E0 st0 w0 E st w->a.defers=a0.defers->listed.size=ops.size->
  (∀ i o,listed.getD i false=true->ops[i]? =some o->∀ e∈o.after,Region.binds .any e=true->listed.getD e.on false=true)->fK listed ds<=fuel->wpAny P .any ops Q fuel listed a w:=by
 have fin:∀ {pre suf:List aO} {listed:Array Bool} {E:Env} {st:St} {w:World} {fr:Fr} {a:Act},pre++suf=ds->tC w0.heap.size (aE P) N K pre suf listed E st w fr a->Ext E0 st0 w0 E st w->a.defers=a0.defers->listed.size=ops.size->(∀ d r,suf=d::r->d.iN=true/\Un listed d)->
  Region.ready .any ops listed=[]->Q .normal a w:=by
  intro pre suf listed E st w fr a iV h he hdf yP x6 hr
  have B7:=BK hd yP hr [] ds rfl (fun d hd=>by cases hd)
  have ajA:suf=[]:=by
   cases suf with
   |nil=>rfl
   |cons d r=>exact absurd (x6 d r rfl).2 (B7 d (by rw [<-iV];simp))
  subst ajA
  obtain ⟨done,_,_,dO⟩:=h.run
  refine hQ fr st E a w dO h.Ou he ⟨h.size,fun t=>h.rel t (fun d Ga hu=>?_) fun d Ga=>by cases Ga⟩ hdf
  exact absurd hu (B7 d (by rw [<-iV];exact List.mem_append_left _ Ga))
 intro fuel
 induction fuel with
 |zero=>
  intro pre suf listed E st w fr a iV h he hdf yP sH hc
  have Da:=sO (listed:=listed) (l:=ds) (by omega)
  have hr:Region.ready .any ops listed=[]:=by
   rw [List.eq_nil_iff_forall_not_mem]
   intro i hi
   obtain ⟨EP,o,ho,_⟩:=mem_ready.1 hi
   obtain ⟨d,Ga,rfl⟩:=hd.all i (Array.getElem?_eq_some_iff.1 ho).1
   exact Da d Ga EP
  obtain ⟨KU,Iw,bV,E',bA,rT,h',Kp,x6⟩:=h.normal (ops:=ops) yP sH he (by rw [iV];exact hd.pair) (by rw [iV];exact hd.nodup) (by rw [iV];exact hd.one)
  exact ⟨hr,fin (rT.trans iV) h' Kp hdf yP x6 hr⟩
 |succ fuel ih=>
  intro pre suf listed E st w fr a iV h he hdf yP sH hc
  obtain ⟨KU,Iw,bV,E',bA,rT,h',Kp,x6⟩:=h.normal (ops:=ops) yP sH he (by rw [iV];exact hd.pair) (by rw [iV];exact hd.nodup) (by rw [iV];exact hd.one)
  rw [iV] at rT
  refine ⟨fun hr=>fin rT h' Kp hdf yP x6 hr,fun i hi=>?_⟩
  refine wpOp_mono ?_ (Ro hd rT h' Kp.size x6 yP sH hi)
  rintro a1 w1 ⟨p1,s1,f1,T8,E1,axY,hi1,aoI,axZ⟩
  obtain ⟨EP,o,ho,Dp⟩:=mem_ready.1 hi
  have ax0:=(Array.getElem?_eq_some_iff.1 ho).1
  obtain ⟨d,Ga,rfl⟩:=hd.all i ax0
  refine ih axY hi1 (Kp.trans aoI) (axZ.trans hdf) (by simpa using yP) ?_ ?_
  · intro j o' hj ho' e Oo hb
    have key:listed.getD e.on false=true:=by
     by_cases hji:j=d.ix
     · subst hji
       rw [ho] at ho';cases ho'
       exact Dp e Oo hb
     · refine sH j o' ?_ ho' e Oo hb
       simp only [Array.getD_eq_getD_getElem?] at hj ⊢
       rw [Array.getElem?_setIfInBounds_ne (fun q=>hji q.symm)] at hj
       exact hj
    exact getD_set_true key
  · have:=uF (listed:=listed) (d:=d) (by omega) EP hd.nodup Ga
    omega
end
section
variable {P:Program} {ops:Array Oper} {N:Nat} {K:Fr×St->Prop} {Q:Exit->Act->World->Prop}
theorem Aq {P1:List (Nat×Nat)} (ht:Dj ops P1):∀ {ds:List aO},CC P1 ds=true->ds.Pairwise (sN ops)
 |[],_=>.nil
 |d::r,h=>by
  simp only [CC,Bool.and_eq_true,List.all_eq_true] at h
  exact .cons (fun e he=>KR ht (h.1 e he)) (Aq ht h.2)
theorem Ar:∀ {ds:List aO} {seen:List Nat},CD ops seen ds=true->
 (∀ pre d suf,ds=pre++d::suf->∀ o,ops[d.ix]? =some o->∀ e∈o.after,Region.binds .any e=true->e.on∈seen\/∃ p∈pre,p.ix=e.on)/\(ds.map (·.ix)).Nodup/\∀ d∈ds,d.ix∉seen
 |[],seen,_=>⟨fun pre d suf h=>by simp at h,by simp,fun d hd=>by cases hd⟩
 |q::r,seen,h=>by
  simp only [CD,Bool.and_eq_true,Bool.not_eq_true'] at h
  obtain ⟨⟨h1,h2⟩,h3⟩:=h
  obtain ⟨i1,i2,i3⟩:=Ar h3
  have hq:q.ix∉seen:=fun hm=>by rw [bU.2 hm] at h2;cases h2
  refine ⟨fun pre d suf iV o ho e he hb=>?_,?_,?_⟩
  · cases pre with
    |nil=>
     simp only [List.nil_append,List.cons.injEq] at iV
     obtain ⟨rfl,rfl⟩:=iV
     rw [ho] at h1
     simp only [List.all_eq_true] at h1
     left
     refine bU.1 (h1 e.on ?_)
     simp only [mR,List.mem_map,List.mem_filter]
     exact ⟨e,⟨by simpa using he,hb⟩,rfl⟩
    |cons p pre=>
     simp only [List.cons_append,List.cons.injEq] at iV
     obtain ⟨rfl,rfl⟩:=iV
     rcases i1 pre d suf rfl o ho e he hb with hm|⟨p,hp,hpi⟩
     · rcases List.mem_cons.1 hm with hm|hm
       · exact .inr ⟨q,.head _,hm.symm⟩
       · exact .inl hm
     · exact .inr ⟨p,.tail _ hp,hpi⟩
  · rw [List.map_cons,List.nodup_cons]
    refine ⟨fun hm=>?_,i2⟩
    obtain ⟨d,hd,hdi⟩:=List.mem_map.1 hm
    exact i3 d hd (by rw [hdi];exact .head _)
  · intro d hd
    rcases List.mem_cons.1 hd with rfl|hd
    · exact hq
    · exact fun hm=>i3 d hd (.tail _ hm)
end
open Go
section
variable {P:Program} {ops:Array Oper} {N:Nat} {K:Fr×St->Prop} {Q:Exit->Act->World->Prop}
theorem Dq {d:aO} (h:Vb P N ops d=true):∃ o,Ve P N ops d o:=by
 unfold Vb at h
 split at h
 case h_2=>cases h
 rename_i o ho
 simp only [Bool.and_eq_true,decide_eq_true_eq,Bool.or_eq_true] at h
 obtain ⟨⟨⟨⟨⟨h1,h2⟩,h3⟩,h4⟩,h5⟩,h6⟩:=h
 refine ⟨o,ho,h1,h2,fun n hn=>?_,h4,fun hl=>?_,fun n hn hm=>?_⟩
 · rw [hn] at h3;simpa [KN] using h3
 · rcases h5 with h5|h5
   · rw [hl] at h5;cases h5
   · exact h5
 · rw [hn] at h6
   simp only [Bool.not_eq_true'] at h6
   rw [bU.2 hm] at h6;cases h6
theorem sP:∀ (n:Nat) {l:List Nat},l.Nodup->(∀ i∈l,i<n)->l.length<=n
 |0,l,_,hb=>by
  cases l with
  |nil=>simp
  |cons x r=>have:=hb x (.head _);omega
 |n+1,l,hn,hb=>by
  by_cases hm:n∈l
  · have hlen:=List.length_erase_of_mem hm
    have:=sP n (l:=l.erase n) (hn.erase n) (fun j hj=>by
     have h1:=(hn.mem_erase_iff.1 hj)
     have h2:=hb j h1.2
     omega)
    omega
  · have:=sP n (l:=l) hn (fun j hj=>by
     have h1:=hb j hj
     have h2:j≠n:=fun e=>hm (e▸hj)
     omega)
    omega
theorem x8:∀ (n:Nat) {l:List Nat},l.Nodup->(∀ i∈l,i<n)->l.length=n->∀ i,i<n->i∈l
 |0,l,_,_,_,i,hi=>by omega
 |n+1,l,hn,hb,hl,i,hi=>by
  have aeV:n∈l:=by
   refine Classical.byContradiction fun hno=>?_
   have:l.length<=n:=by
    refine sP n hn fun j hj=>?_
    have h1:=hb j hj
    have h2:j≠n:=fun e=>hno (e▸hj)
    omega
   omega
  by_cases qM:i=n
  · subst qM;exact aeV
  have hlen:=List.length_erase_of_mem aeV
  have:=x8 n (l:=l.erase n) (hn.erase n) (fun j hj=>by
   have h1:=(hn.mem_erase_iff.1 hj)
   have h2:=hb j h1.2
   omega) (by omega) i (by omega)
  exact List.mem_of_mem_erase this
theorem KY {ds:List aO} (h:Bb P N ops ds=true):Iv P N ops ds:=by
 unfold Bb at h
 simp only [Bool.and_eq_true,decide_eq_true_eq,List.all_eq_true] at h
 obtain ⟨⟨⟨⟨h1,h2⟩,h3⟩,h4⟩,h5⟩:=h
 obtain ⟨e1,e2,_⟩:=Ar h5
 refine ⟨h1,fun d hd=>Dq (h3 d hd),Aq (allAncs_ok ops _) h4,fun pre d suf iV o ho e he hb=>?_,e2,fun i hi=>?_⟩
 · rcases e1 pre d suf iV o ho e he hb with hm|h
   · cases hm
   · exact h
 · have:=x8 ops.size (l:=ds.map (·.ix)) e2 (fun j hj=>by
    obtain ⟨d,hd,rfl⟩:=List.mem_map.1 hj
    obtain ⟨o,ho⟩:=Dq (h3 d hd)
    exact (Array.getElem?_eq_some_iff.1 ho.at_).1) (by simpa using h2) i hi
   obtain ⟨d,hd,hdi⟩:=List.mem_map.1 this
   exact ⟨d,hd,hdi⟩
theorem yQ (listed:Array Bool):∀ l:List aO,fK listed l<=l.length
 |[]=>Nat.le_refl _
 |d::r=>by
  have:=yQ listed r
  simp only [fK,List.length_cons]
  split<;>omega
theorem draw_ok {ds:List aO} (hk:Bb P N ops ds=true) {id:Nat} {E:Env} {st:St} {w:World} {fr:Fr} {a:Act} (hs:bQ E st w) (hf:aS E N fr a)
 (hw:(gD [] ds fr st).wp (aE P) K)
 (hQ:∀ bV bA E' a' w',K (bV,bA)->bQ E' bA w'->Ext E st w E' bA w'->aS E' N bV a'->a'.defers=a.defers->Q .normal a' w'):
 (Code.region id ops true).wp P Q a w:=by
 have hd:=KY hk
 refine wp_region_any hd.md ?_
 have hlen:ds.length=ops.size:=by
  unfold Bb at hk
  simp only [Bool.and_eq_true,decide_eq_true_eq] at hk
  exact hk.1.1.1.2
 have EP:∀ d∈ds,Un (Array.replicate ops.size false) d:=fun d Ga=>by
  obtain ⟨o,ho⟩:=hd.one d Ga
  have dZ:=(Array.getElem?_eq_some_iff.1 ho.at_).1
  simp [Un,Array.getD_eq_getD_getElem?,dZ]
 have s0:(Array.replicate ops.size false).size=ops.size:=by simp
 refine Vo (K:=K) hd (E0:=E) (st0:=st) (w0:=w) (a0:=a) (fun bV bA E' a' w' h1 h2 h3 h4 h5=>hQ bV bA E' a' w' h1 h2 h3 h4 h5)
  ops.size (pre:=[]) (suf:=ds) (E:=E) (st:=st) (fr:=fr) (by simp) ?_ (Ext.drawn (w.drawn+1)) rfl s0 ?_ ?_
 · refine ⟨hs.of_heap (w:=w) (w':={ w with drawn:=w.drawn+1 }) rfl,hf.size,fun t _ _=>hf.rel t,⟨fun _=>0,fun d hd hu=>absurd (EP d hd) hu,fun d hd _ _ hu=>absurd (EP d hd) hu⟩,fun d hd=>(by cases hd),[],fun x h=>h,fun x h=>h,hw⟩
 · intro i o hi ho
   have dZ:=(Array.getElem?_eq_some_iff.1 ho).1
   simp [Array.getD_eq_getD_getElem?,dZ] at hi
 · rw [<-hlen];exact yQ _ _
end
open Go
def P4 (w:World) (b:Nat) (es:List (V×V)) (kv:V) (s:Nat):Prop:=
 ∃ aY clock j en,w.heap[b]? =some (.map aY clock)/\aY[j]? =some en/\en.born=s/\j<es.length/\∀ u,fH es kv u=es.set j (kv,u)
section
variable {P:Program} {o:Oper} {a:Act} {E:Env} {N:Nat} {st:St} {w:World} {fr:Fr} {K:R->Prop}
theorem yR {kd:Option IntKind} {v:V} (h:v.dA kd=true):rI v v=true:=by
 cases kd<;>cases v<;>simp [V.dA,rI] at h ⊢
theorem Gb {kd:Option IntKind} {kv u u':V} (hk:kv.dA kd=true):∀ {es:List (V×V)},fH es kv u=es++[(kv,u)]->fH (es++[(kv,u')]) kv u=(es++[(kv,u')]).set es.length (kv,u)
 |[],_=>by simp [fH,yR hk]
 |(k,x)::r,h=>by
  simp only [fH] at h
  split at h
  · have:=congrArg List.length h
    simp at this
  · rename_i dX
    have h2:fH r kv u=r++[(kv,u)]:=by simpa using h
    simp only [List.cons_append,fH,if_neg dX,List.length_cons,List.set_cons_succ]
    rw [Gb hk h2]
theorem As {kv:V}:∀ {es:List (V×V)} {u:V},fH es kv u=es++[(kv,u)]->∀ u',fH es kv u'=es++[(kv,u')]
 |[],_,_,_=>rfl
 |(k,x)::r,u,h,u'=>by
  simp only [fH] at h ⊢
  split at h
  · have:=congrArg List.length h
    simp at this
  · rename_i dX
    rw [if_neg dX]
    have h2:fH r kv u=r++[(kv,u)]:=by simpa using h
    rw [As h2 u'];rfl
theorem sQ {kd:Option IntKind} {kv u u':V} (hk:kv.dA kd=true):∀ {es:List (V×V)},fH (fH es kv u') kv u=fH es kv u
 |[]=>by simp [fH,yR hk]
 |(k,x)::r=>by
  simp only [fH]
  split
  · simp [fH,yR hk]
  · rename_i dX
    simp only [fH,if_neg dX,sQ hk]
theorem Vp {t kt el:TypeId} {x y:Operand} {kd:Option IntKind} {k:Key} {es:List (V×V)} {kv:V} (ho:o.op=.mapEntry t x y) (hu:P.underlying t=some (.map kt el)) (hk:s6 P kt kd=true) (hz:∃ i z,P.info? el=some i/\i.zero=some z)
 (hs:bQ E st w) (r1:Rel E (.m k) (a.eval x)) (r2:Rel E kv (a.eval y)) (j9:kv.dA kd=true) (eQ:st.get k=some (.mp kd es)):
 ∃ (val:Value) (s:Nat) (w':World),(execOp a.eval o).run P w=.ok (.value (.tuple #[val,goInt s])) w'/\bQ E (st.set k (.mp kd (fH es kv .bL))) w'/\Ext E st w E (st.set k (.mp kd (fH es kv .bL))) w'/\P4 w' (E.μ k).bI (fH es kv .bL) kv s:=by
 obtain ⟨dd,FX,yJ⟩:=sL hk
 obtain ⟨inf,z,hi,hz⟩:=hz
 have U4:=r2.key j9
 have U5:=yJ j9 U4
 generalize Om:a.eval x=y' at r1
 cases r1 with
 |deep hd=>cases hd
 |m _ hhk=>
  obtain ⟨aY,clock,hb,hp⟩:=hs.KH eQ
  have hbn:=hs.wA eQ hb
  have sJ:=fun b=>MapKept.run_checkKey (w:=w) (P:=P) FX U5 b 9999
  have hg:=MapKept.run_getObj_map (P:=P) hb
  have r2a:eH (E.at k).I kv (a.eval y):=by rw [Env.aeQ];exact U4
  rcases find_spec (E:=E.at k) yJ j9 r2a .bL es aY.toList 0 hp with ⟨a1,a2,a3,_⟩|⟨j,en,q,a1,a2,a3,a4,a5,a6,_⟩
  · have F1:=MapKept.run_findKey (P:=P) (w:=w) FX a1
    obtain ⟨s1,s2⟩:=hs.yI eQ hb (aY.push { key:=a.eval y,val:=z,born:=clock }) (clock+1) (es++[(kv,.bL)]) (F0 hbn _ _) ⟨by simp [<-hp.1],fun j q en hq mQ=>by
     rw [Array.toList_push] at mQ
     rw [List.getElem?_append] at hq mQ
     have hlen:=hp.1
     split at hq
     · rename_i dZ
       rw [if_pos (by omega)] at mQ
       exact hp.2 j q en hq mQ
     · rename_i dZ
       rw [if_neg (by omega)] at mQ
       have h0:j - es.length=0:=by
        have:=(List.getElem?_eq_some_iff.1 hq).1
        simp at this;omega
       rw [h0] at hq
       rw [hlen,h0] at mQ
       simp at hq mQ
       subst hq;subst mQ
       exact ⟨r2a,j9,.bL _⟩⟩
    rw [a3]
    have jN:aY.size=es.length:=by have:=hp.1;simpa using this
    refine ⟨z,clock,_,?_,s1,s2,aY.push { key:=a.eval y,val:=z,born:=clock },clock+1,es.length,{ key:=a.eval y,val:=z,born:=clock },(MapKept.heap_set (o':=.map (aY.push { key:=a.eval y,val:=z,born:=clock }) (clock+1)) hb).1,?_,rfl,by simp,fun u=>?_⟩
    · simp [execOp,ho,Om,Instr.mapEntry,run_underlying hu,hg,sJ,F1,MapKept.run_setObj_map _ hb,iQ hi hz]
    · rw [<-jN];simp
    · exact Gb j9 (As a3 u)
  · have F1:=MapKept.run_findKey (P:=P) (w:=w) FX a1
    have hj:aY[j]? =some en:=by simpa using a2
    obtain ⟨s1,s2⟩:=hs.yI eQ hb (aY.modify j fun e'=>{ e' with key:=a.eval y }) clock (es.set j (kv,.bL)) (by
     have:=uA hbn j (a.eval y) en.val
     have e1:(aY.modify j fun e'=>{ e' with key:=a.eval y,val:=en.val })=aY.modify j fun e'=>{ e' with key:=a.eval y }:=by
      apply Array.ext_getElem?
      intro i
      rw [Array.getElem?_modify,Array.getElem?_modify]
      split
      · rename_i An;subst An;rw [hj];rfl
      · rfl
     rw [e1] at this
     exact this) ⟨by simp [<-hp.1],fun i q' en' hq mQ=>by
     rw [Array.getElem?_toList,Array.getElem?_modify] at mQ
     by_cases An:j=i
     · subst An
       rw [if_pos rfl,hj] at mQ
       simp only [Option.map_some,Option.some.injEq] at mQ
       have dZ:=(List.getElem?_eq_some_iff.1 a3).1
       rw [List.getElem?_set_self dZ] at hq
       simp only [Option.some.injEq] at hq
       subst hq;subst mQ
       exact ⟨r2a,j9,.bL _⟩
     · rw [if_neg An] at mQ
       rw [List.getElem?_set_ne An] at hq
       exact hp.2 i q' en' hq (by simpa using mQ)⟩
    rw [a6]
    have dZ:=(List.getElem?_eq_some_iff.1 a3).1
    have Ik:∀ u,fH (es.set j (kv,.bL)) kv u=(es.set j (kv,.bL)).set j (kv,u):=by
     intro u
     rw [List.set_set,<-a6,sQ j9]
     rcases find_spec (E:=E.at k) yJ j9 r2a u es aY.toList 0 hp with ⟨b1,_⟩|⟨j',en',q',b1,_,_,_,_,b6,_⟩
     · rw [a1] at b1;cases b1
     · rw [a1] at b1
       have:j'=j:=by simp only [Option.some.injEq,Prod.mk.injEq] at b1;omega
       rw [b6,this]
    refine ⟨en.val,en.born,_,?_,s1,s2,aY.modify j fun e'=>{ e' with key:=a.eval y },clock,j,{ en with key:=a.eval y },(MapKept.heap_set (o':=.map (aY.modify j fun e'=>{ e' with key:=a.eval y }) clock) hb).1,?_,rfl,by simpa using dZ,Ik⟩
    · simp [execOp,ho,Om,Instr.mapEntry,run_underlying hu,hg,sJ,F1,hj,a4,MapKept.run_keyThatStays U5,MapKept.run_setObj_map _ hb]
    · rw [Array.getElem?_modify,if_pos rfl,hj];rfl
theorem aeW {t:TypeId} {x sx v:Operand} {kd:Option IntKind} {k:Key} {es:List (V×V)} {kv u:V} {s:Nat} (ho:o.op=.entryStore t x sx v)
 (hs:bQ E st w) (r1:Rel E (.m k) (a.eval x)) (hsx:a.eval sx=goInt s) (r3:Rel (E.at k) u (a.eval v)) (j9:kv.dA kd=true) (eQ:st.get k=some (.mp kd (fH es kv .bL))) (CA:P4 w (E.μ k).bI (fH es kv .bL) kv s):
 ∃ w',(execOp a.eval o).run P w=.ok .skip w'/\bQ E (st.set k (.mp kd (fH es kv u))) w'/\Ext E st w E (st.set k (.mp kd (fH es kv u))) w':=by
 generalize Om:a.eval x=y' at r1
 cases r1 with
 |deep hd=>cases hd
 |m _ hhk=>
  obtain ⟨aY,clock,hb,hp⟩:=hs.KH eQ
  have hbn:=hs.wA eQ hb
  obtain ⟨BH,yH,j,en,b1,b2,b3,b4,b5⟩:=CA
  rw [hb] at b1
  cases b1
  have hg:=MapKept.run_getObj_map (P:=P) hb
  have Ca:j<aY.size:=(Array.getElem?_eq_some_iff.1 b2).1
  have aoJ:aY.findIdx? (fun e=>(e.born:Int)==(s:Int))=some j:=by
   rw [Array.findIdx?_eq_some_iff_getElem]
   refine ⟨Ca,?_,fun i hi=>?_⟩
   · have:=(Array.getElem?_eq_some_iff.1 b2).2
     rw [this,b3];simp
   · intro hc
     have hc:(aY[i]'(by omega)).born=s:=by
      have hc:((aY[i]'(by omega)).born:Int)=(s:Int):=by simpa using hc
      omega
     have hn:=hbn.2
     have e1:(aY.toList.map (·.born))[i]'(by simp;omega)=s:=by simpa using hc
     have e2:(aY.toList.map (·.born))[j]'(by simpa using Ca)=s:=by
      have:=(Array.getElem?_eq_some_iff.1 b2).2
      simp [this,b3]
     have:=(List.getElem_inj hn).1 (e1.trans e2.symm)
     omega
  have hk:=hp.2
  obtain ⟨s1,s2⟩:=hs.yI eQ hb (aY.modify j fun e'=>{ e' with val:=a.eval v }) clock ((fH es kv .bL).set j (kv,u)) (by
   have:=uA hbn j en.key (a.eval v)
   have e1:(aY.modify j fun e'=>{ e' with key:=en.key,val:=a.eval v })=aY.modify j fun e'=>{ e' with val:=a.eval v }:=by
    apply Array.ext_getElem?
    intro i
    rw [Array.getElem?_modify,Array.getElem?_modify]
    split
    · rename_i An;subst An;rw [b2];rfl
    · rfl
   rw [e1] at this
   exact this) ⟨by simp [<-hp.1],fun i q' en' hq mQ=>by
   rw [Array.getElem?_toList,Array.getElem?_modify] at mQ
   by_cases An:j=i
   · subst An
     rw [if_pos rfl,b2] at mQ
     simp only [Option.map_some,Option.some.injEq] at mQ
     rw [List.getElem?_set_self b4] at hq
     simp only [Option.some.injEq] at hq
     subst hq;subst mQ
     have hold:(fH es kv .bL)[j]? =some (kv,.bL):=by
      have h5:=b5 .bL
      rw [sQ j9] at h5
      have h6:=List.getElem?_set_self (a:=(kv,V.bL)) b4
      rw [<-h5] at h6
      exact h6
     have:=hk j (kv,.bL) en hold (by rw [Array.getElem?_toList];exact b2)
     exact ⟨this.1,j9,r3⟩
   · rw [if_neg An] at mQ
     rw [List.getElem?_set_ne An] at hq
     exact hk i q' en' hq (by simpa using mQ)⟩
  rw [<-b5 u,sQ j9] at s1 s2
  refine ⟨_,?_,s1,s2⟩
  simp [execOp,ho,Om,hsx,Instr.entryStore,hg,goInt,asInt,asIntOf,Result.andThen,aoJ,MapKept.run_setObj_map _ hb]
end
open Go
def qOp:wT->Bool
 |.mv _=>true
 |.zW _=>true
 |.oW _ _=>true
 |.load _ _=>true
 |_=>false
section
variable {P:Program} {o:Oper} {a:Act} {E:Env} {N:Nat} {st:St} {w:World} {fr:Fr} {next:Act->World->Prop} {Q:Exit->Act->World->Prop}
theorem aoK {A:wT} (hq:qOp A=true) (h:EM P o.op A=true) (hs:bQ E st w) (hf:aS E N fr a) {v:V} (hy:(step A fr st).Yields (aE P) st v) (hn:∀ x,Rel E v x->next (a.put o.dst x) w):o.wp P a w next Q:=by
 have hw:=hy (fun r=>r=(v,st)) rfl
 cases A<;>simp only [qOp,Bool.false_eq_true] at hq<;>simp only [EM] at h
 case mv d=>
  split at h
  · rename_i x ho
    have hv:d.ev fr=v:=(Prod.mk.inj hw).1
    exact aP (x:=a.eval x) (by simp [execOp,ho]) (hn _ (hv▸aQ h hf))
  · cases h
 case zW d=>
  split at h
  · rename_i x ho
    have h1:=aQ h hf
    simp only [step] at hw
    split at hw
    case h_5=>exact hw.elim
    all_goals
     rename_i e1
     rw [e1] at h1
     have hv:=(Prod.mk.inj hw).1
     rw [hv] at h1
     refine aP (x:=a.eval x) ?_ (hn _ h1)
     rw [<-hv] at h1
     generalize Rp:a.eval x=y at h1
     cases h1<;>first|(rename_i hd;cases hd)|simp [execOp,ho,Rp]
  · cases h
 case oW off d=>
  split at h
  · rename_i t x f ho
    simp only [Bool.and_eq_true] at h
    obtain ⟨h1,h2⟩:=h
    split at h2
    · rename_i fs hu
      split at h2
      · rename_i fl CW
        simp only [Bool.and_eq_true,decide_eq_true_eq] at h2
        obtain ⟨h3,h4⟩:=h2
        split at h4
        · rename_i i hi
          have hi0:=of_decide_eq_true h4
          subst h3
          have h1:=aQ h1 hf
          have dO:∀ b c,a.eval x=.pointer (some ⟨b,c,none⟩)->(execOp a.eval o).run P w=.ok (.value (.pointer (some ⟨b,c+fl.offset,none⟩))) w:=by
           intro b c hb
           simp [execOp,ho,hb,Instr.fieldAt,run_underlying hu,CW,Instr.sureAddr,fieldPlace,sizeOf,typeInfo,hi,hi0,Addr.add_lit]
          simp only [step] at hw
          split at hw
          · rename_i k c e1
            rw [e1] at h1
            have hv:=(Prod.mk.inj hw).1
            subst hv
            generalize Rp:a.eval x=y at h1
            cases h1 with
            |deep hd=>cases hd
            |p _ _ hk=>
             refine aP (dO _ _ Rp) (hn _ ?_)
             rw [Nat.add_assoc];exact .p _ _ hk
          · rename_i k sz ix c e1
            rw [e1] at h1
            have hv:=(Prod.mk.inj hw).1
            subst hv
            generalize Rp:a.eval x=y at h1
            cases h1 with
            |deep hd=>cases hd
            |pa _ _ _ _ hk=>
             refine aP (dO _ _ Rp) (hn _ ?_)
             rw [Nat.add_assoc];exact .pa _ _ _ _ hk
          · rename_i cs c e1
            rw [e1] at h1
            have hv:=(Prod.mk.inj hw).1
            subst hv
            generalize Rp:a.eval x=y at h1
            cases h1 with
            |deep hd=>cases hd
            |pc _ _ bI c0 val hv hr=>
             refine aP (dO _ _ Rp) (hn _ ?_)
             rw [Nat.add_assoc];exact .pc _ _ bI c0 val hv hr
          · exact hw.elim
        · cases h4
      · cases h2
    · cases h2
  · cases h
 case load n d=>
  split at h
  · rename_i t x ho
    simp only [Bool.and_eq_true] at h
    have h1:=aQ h.1 hf
    have fin:∀ {b c:Nat} {cs:List V} {off:Nat},a.eval x=.pointer (some ⟨b,c+off,none⟩)->fI E w b c cs->dF cs off n=some v->o.wp P a w next Q:=by
     intro b c cs off hp vW hv
     obtain ⟨z,BF,Cy⟩:=o5 (P:=P) h.2 vW hv
     exact aP (x:=z) (by simp [execOp,ho,hp,Instr.loadAt,Instr.sureAddr,BF]) (hn _ Cy)
    simp only [step] at hw
    split at hw
    · rename_i k off e1
      rw [e1] at h1
      generalize Rp:a.eval x=y at h1
      cases h1 with
      |deep hd=>cases hd
      |p _ _ hk=>
       obtain ⟨ob,eQ,hw⟩:=hw
       dsimp only at hw
       split at hw
       · unfold T.opt at hw
         split at hw
         · rename_i u hu
           have hv:=(Prod.mk.inj hw).1
           subst hv
           exact fin Rp ((hs.cs eQ).sG.mono (E.Aa k)) hu
         · exact hw.elim
       · exact hw.elim
    · rename_i k sz ix off e1
      rw [e1] at h1
      generalize Rp:a.eval x=y at h1
      cases h1 with
      |deep hd=>cases hd
      |pa _ _ _ _ hk=>
       obtain ⟨ob,eQ,hw⟩:=hw
       dsimp only at hw
       split at hw
       · rename_i eD es
         split at hw
         · rename_i hz
           subst hz
           obtain ⟨e,he,hw⟩:=hw
           dsimp only at hw
           unfold T.opt at hw
           split at hw
           · rename_i u hu
             have hv:=(Prod.mk.inj hw).1
             subst hv
             have gU:=hs.obj k _ eQ
             exact fin Rp (elem_at gU.1 (gU.2.sG.mono (E.Aa k)) he) hu
           · exact hw.elim
         · exact hw.elim
       · exact hw.elim
    · rename_i cs off e1
      rw [e1] at h1
      generalize Rp:a.eval x=y at h1
      cases h1 with
      |deep hd=>cases hd
      |pc _ _ bI c0 val hv0 hr=>
       unfold T.opt at hw
       split at hw
       · rename_i u hu
         have hv:=(Prod.mk.inj hw).1
         subst hv
         exact fin Rp (hs.UC hv0 hr) hu
       · exact hw.elim
    · exact hw.elim
  · cases h
end
theorem jA {n x:Nat} {ob:Obj}:∀ {l:List (Nat×Obj)},x≠n->aC.find (aC.zV l n ob) x=aC.find l x
 |[],_=>rfl
 |(k,u)::r,h=>by
  simp only [aC.zV]
  split
  · rename_i e;subst e
    simp only [aC.find,if_neg (Ne.symm h)]
  · simp only [aC.find,jA h]
def Dr (st bA:St):Prop:=∀ k ob,st.get k=some ob->(∀ kd es,ob≠.mp kd es)->bA.get k=some ob
theorem Dr.set {st bA:St} (h:Dr st bA) {k:Key} {kd:Option IntKind} {es:List (V×V)} (eQ:bA.get k=some (.mp kd es)) (ob:Obj):Dr st (bA.set k ob):=by
 intro k' ob' h1 h2
 have h3:=h k' ob' h1 h2
 have dX:k'≠k:=by
  rintro rfl
  rw [eQ] at h3
  cases h3
  exact h2 _ _ rfl
 have Ik:(bA.set k ob).get k'=bA.get k':=by
  obtain ⟨⟨gn,gl⟩,⟨ln,ll⟩⟩:=bA
  cases k with
  |g n=>
   cases k' with
   |g m=>exact jA (fun e=>dX (by rw [e]))
   |l m=>rfl
  |l n=>
   cases k' with
   |g m=>rfl
   |l m=>exact jA (fun e=>dX (by rw [e]))
 rw [Ik];exact h3
theorem aoM {A:bK} {op:wT} (hq:qOp op=true) {fr:Fr} {st bA:St} (hn:Dr st bA) {v:V} (hy:(step op fr st).Yields A st v):(step op fr bA).Yields A bA v:=by
 cases op<;>simp only [qOp,Bool.false_eq_true] at hq
 case load n d=>
  intro K hK
  have hw:=hy (fun r=>r=(v,st)) rfl
  simp only [step] at hw ⊢
  split at hw
  · obtain ⟨ob,eQ,hw⟩:=hw
    dsimp only at hw
    split at hw
    · rename_i c
      refine ⟨_,hn _ _ eQ (fun _ _ e=>by cases e),?_⟩
      dsimp only
      unfold T.opt at hw ⊢
      split at hw
      · have hv:=(Prod.mk.inj hw).1
        subst hv
        exact hK
      · exact hw.elim
    · exact hw.elim
  · obtain ⟨ob,eQ,hw⟩:=hw
    dsimp only at hw
    split at hw
    · refine ⟨_,hn _ _ eQ (fun _ _ e=>by cases e),?_⟩
      dsimp only
      split at hw
      · rename_i hz
        rw [if_pos hz]
        obtain ⟨e,he,hw⟩:=hw
        refine ⟨e,he,?_⟩
        dsimp only at hw ⊢
        unfold T.opt at hw ⊢
        split at hw
        · have hv:=(Prod.mk.inj hw).1
          subst hv
          exact hK
        · exact hw.elim
      · exact hw.elim
    · exact hw.elim
  · unfold T.opt at hw ⊢
    split at hw
    · have hv:=(Prod.mk.inj hw).1
      subst hv
      exact hK
    · exact hw.elim
  · exact hw.elim
 all_goals
  intro K hK
  exact F6 (by rfl) A fr st bA K (hy _ hK)
open Go
structure Cc where
 dm:Nat
 dx:Nat
 kd:Option IntKind
 d:bH
 e:bH
 c:bH
def isJ (d:aO):Bool:=
 match d.o.op with
 |.mv (.c .bL)=>true
 |_=>false
def pD:List aO->Option (List Cc)
 |[]=>some []
 |m::x::y::r=>match m.o.dst,x.o.dst,y.o.op with
  |some dm,some dx,.EA kd d e c=>if isJ m&&isJ x&&y.o.dst.isNone&&m.o.guard.isNone&&x.o.guard.isNone&&y.o.guard.isNone&&m.re.isEmpty&&x.re.isEmpty&&y.re.isEmpty then (pD r).map (⟨dm,dx,kd,d,e,c⟩::·) else none
  |_,_,_=>none
 |_=>none
def okT (P:Program) (N:Nat) (ops:Array Oper) (i:Nat) (t:Cc):Bool:=
 match ops[i]?,ops[i+1]?,ops[i+2]? with
 |some om,some ox,some oy=>decide (om.dst=some t.dm)&&decide (ox.dst=some t.dx)&&oy.dst.isNone&&decide (t.dm<N)&&decide (t.dx<N)&&(match om.op,ox.op,oy.op with
  |.mapEntry ty mx my,.extract (.tmp tp) 1,.entryStore _ ex (.tmp sx) ev=>decide (tp=t.dm)&&decide (sx=t.dx)&&cZ mx t.d&&cZ my t.e&&cZ ex t.d&&cZ ev t.c&&(match P.underlying ty with
   |some (.map kt el)=>s6 P kt t.kd&&(match P.info? el with
    |some i=>i.zero.isSome
    |none=>false)
   |_=>false)
  |_,_,_=>false)
 |_,_,_=>false
def Cd (P:Program) (N:Nat) (ops:Array Oper):Nat->List Cc->Bool
 |i,[]=>decide (i=ops.size)
 |i,t::r=>okT P N ops i t&&Cd P N ops (i+3) r
def iT:List Cc->List Nat
 |[]=>[]
 |t::r=>t.dm::t.dx::iT r
def mS (n:Nat) (ds:List aO) (ts:List Cc) (i:Nat):List Nat:=
 if i<n then (match ds[i]? with|some d=>d.o.op.aZ|none=>[])
 else match ts[(i - n)/3]? with
  |some t=>if (i - n)%3=0 then t.d.aZ++t.e.aZ else if (i - n)%3=1 then [t.dm] else t.d.aZ++t.c.aZ++[t.dx]
  |none=>[]
def eZ (ops:Array Oper) (i:Nat):Option Nat:=(ops[i]?).bind (·.dst)
def sR (ops:Array Oper) (i j:Nat):Bool:=
 match ops[i]? with
 |some o=>(mR o).contains j
 |none=>false
def okQ (P:Program) (N:Nat) (ops:Array Oper) (ds:List aO) (i:Nat):Bool:=
 match ds[i]?,ops[i]? with
 |some d,some o=>qOp d.o.op&&EM P o.op d.o.op&&d.o.guard.isNone&&d.re.isEmpty&&decide (d.o.dst=o.dst)&&(match o.dst with
  |some t=>decide (t<N)&&!(d.o.op.aZ.contains t)
  |none=>false)
 |_,_=>false
def ahR (P:Program) (N:Nat) (ops:Array Oper) (ds:List aO) (n:Nat) (ts:List Cc):Bool:=
 P.follows .mixedOrders&&decide (ds.length=ops.size)&&decide (n<=ops.size)&&Cd P N ops n ts&&(List.range n).all (okQ P N ops ds)&&ops.toList.all (·.guard.isNone)&&
  (List.range ops.size).all (fun i=>(List.range ops.size).all fun j=>
    (decide (i=j)||(match eZ ops i,eZ ops j with
      |some a,some b=>decide (a≠b)
      |_,_=>true))&&
    (match eZ ops j with
      |some t=>!(mS n ds ts i).contains t||sR ops i j
      |none=>true))&&
  (List.range ops.size).all (fun i=>decide (i<=n)||sR ops i (i - 1))&&
  (List.range ops.size).all (fun i=>match ops[i]? with
    |some o=>(mR o).all fun j=>decide (j<i)
    |none=>true)&&ts.all (fun t=>(iT ts).all fun s=>!(t.d.aZ++t.e.aZ++t.c.aZ).contains s)
def nQ (ds:List aO):Nat:=(ds.takeWhile fun d=>qOp d.o.op&&!isJ d).length
def Vq (P:Program) (N:Nat) (ops:Array Oper) (ds:List aO):Bool:=
 match pD (ds.drop (nQ ds)) with
 |none=>false
 |some ts=>ahR P N ops ds (nQ ds) ts
structure PR (P:Program) (N:Nat) (ops:Array Oper) (ds:List aO) (n:Nat) (ts:List Cc):Prop where
 md:P.follows .mixedOrders=true
 len:ds.length=ops.size
 le:n<=ops.size
 tri:pD (ds.drop n)=some ts
 oks:Cd P N ops n ts=true
 q:∀ i,i<n->okQ P N ops ds i=true
 gd:∀ (i:Nat) (o:Oper),ops[i]? =some o->o.guard=none
 nd:∀ i j t,eZ ops i=some t->eZ ops j=some t->i=j
 dep:∀ i j t,i<ops.size->eZ ops j=some t->t∈mS n ds ts i->sR ops i j=true
 ch:∀ i,n<i->i<ops.size->sR ops i (i - 1)=true
 back:∀ i j,sR ops i j=true->j<i
 sl:∀ t∈ts,∀ s∈iT ts,s∉t.d.aZ/\s∉t.e.aZ/\s∉t.c.aZ
theorem rU {ops:Array Oper} {i t:Nat} (h:eZ ops i=some t):i<ops.size:=by
 unfold eZ at h
 cases ho:ops[i]? with
 |none=>rw [ho] at h;cases h
 |some o=>exact (Array.getElem?_eq_some_iff.1 ho).1
theorem Rq {P:Program} {N:Nat} {ops:Array Oper} {ds:List aO} (h:Vq P N ops ds=true):∃ n ts,PR P N ops ds n ts:=by
 unfold Vq at h
 split at h
 · cases h
 · rename_i ts hts
   unfold ahR at h
   simp only [Bool.and_eq_true,decide_eq_true_eq,List.all_eq_true,List.mem_range] at h
   obtain ⟨⟨⟨⟨⟨⟨⟨⟨⟨h1,h2⟩,h3⟩,h4⟩,h5⟩,h6⟩,h7⟩,h8⟩,h9⟩,h10⟩:=h
   refine ⟨_,ts,h1,h2,h3,hts,h4,h5,fun i o ho=>?_,fun i j t hi hj=>?_,fun i j t hi hj ht=>?_,fun i hi hl=>?_,fun i j An=>?_,fun t ht s hs=>?_⟩
   · have:=h6 o (by rw [Array.mem_toList_iff];exact Array.mem_of_getElem? ho)
     cases hg:o.guard with
     |none=>rfl
     |some q=>rw [hg] at this;cases this
   · have:=(h7 i (rU hi) j (rU hj)).1
     rw [hi,hj] at this
     simp only [Bool.or_eq_true,decide_eq_true_eq] at this
     rcases this with h|h
     · exact h
     · exact absurd rfl h
   · have:=(h7 i hi j (rU hj)).2
     rw [hj] at this
     simp only [Bool.or_eq_true,Bool.not_eq_true',List.contains_eq_mem,decide_eq_false_iff_not] at this
     rcases this with h|h
     · exact absurd ht h
     · exact h
   · have:=h8 i hl
     simp only [Bool.or_eq_true,decide_eq_true_eq] at this
     rcases this with h|h
     · omega
     · exact h
   · unfold sR at An
     cases ho:ops[i]? with
     |none=>rw [ho] at An;cases An
     |some o=>
      rw [ho] at An
      have:=h9 i (Array.getElem?_eq_some_iff.1 ho).1
      rw [ho] at this
      simp only [List.all_eq_true,decide_eq_true_eq] at this
      exact this j (by simpa using An)
   · have:=h10 t ht s hs
     simpa [List.contains_eq_mem] using this
def qY (frP:Fr) (K:St->Prop):List Cc->St->Prop
 |[],st=>K st
 |t::r,st=>∃ k es u,(t.e.ev frP).dA t.kd=true/\t.d.ev frP=.m k/\st.get k=some (.mp t.kd es)/\Km k.rD (t.c.ev frP)=some u/\qY frP K r (st.set k (.mp t.kd (fH es (t.e.ev frP) u)))
theorem qO {α:Type} {fr:Fr} {st:St} {k:T α}:∀ {done:List aO},recheck [] done fr st k=k
 |[]=>rfl
 |p::ps=>by simp only [recheck,bZ,qO (done:=ps)]
section
variable {A:bK} {K:Fr×St->Prop}
theorem P5 {st:St} {rest:List aO}:∀ {pre done:List aO} {fr:Fr},(∀ d∈pre,qOp d.o.op=true/\d.o.guard=none/\d.re=[]/\∃ t,d.o.dst=some t/\t∉d.o.op.aZ)->
 (pre.Pairwise fun d e=>d.o.dst≠e.o.dst/\∀ t,e.o.dst=some t->t∉d.o.op.aZ)->(gD done (pre++rest) fr st).wp A K->
 ∃ frP KZ,(gD KZ rest frP st).wp A K/\(∀ d∈pre,∃ v t,d.o.dst=some t/\frP.get t=v/\(step d.o.op frP st).Yields A st v)/\∀ t,(∀ d∈pre,d.o.dst≠some t)->frP.get t=fr.get t
 |[],done,fr,_,_,h=>⟨fr,done,h,fun d hd=>(by cases hd),fun t _=>rfl⟩
 |d::pre,done,fr,hq,hp,h=>by
  obtain ⟨q1,q2,q3,t,q4,q5⟩:=hq d (.head _)
  rw [List.pairwise_cons] at hp
  simp only [List.cons_append,gD,rJ,q2,q3] at h
  rw [T.wp_bind] at h
  have Dm:gM d.o.op=true:=by
   cases ho:d.o.op<;>rw [ho] at q1<;>simp only [qOp,Bool.false_eq_true] at q1<;>rfl
  obtain ⟨v,hy,h⟩:=T.eF (yK Dm fr st) h
  dsimp only at h
  rw [Fr.bW,qO] at h
  obtain ⟨frP,KZ,h1,h2,h3⟩:=P5 (pre:=pre) (fun e he=>hq e (.tail _ he)) hp.2 h
  have fY:∀ t',(∀ e∈pre,e.o.dst≠some t')->frP.get t'=if d.o.dst=some t' then v else fr.get t':=by
   intro t' ht
   rw [h3 t' ht,gY]
  refine ⟨frP,KZ,h1,fun e he=>?_,fun t' ht=>?_⟩
  · rcases List.mem_cons.1 he with rfl|he
    · refine ⟨v,t,q4,?_,?_⟩
      · rw [fY t (fun x hx e=>(hp.1 x hx).1 (by rw [q4,e])),if_pos q4]
      · rw [<-iX (fr:=fr) (fun t' ht'=>?_) st]
        · exact hy
        · rw [fY t' (fun x hx e=>(hp.1 x hx).2 t' e ht'),if_neg (fun e=>by rw [q4] at e;cases e;exact q5 ht')]
    · exact h2 e he
  · rw [fY t' (fun x hx=>ht x (.tail _ hx)),if_neg (ht d (.head _))]
end
open Go
theorem K1 {d:aO} (h:isJ d=true):d.o.op=.mv (.c .bL):=by
 unfold isJ at h
 split at h
 · assumption
 · cases h
theorem K2 {m x y:aO} {r:List aO} {ts:List Cc} (h:pD (m::x::y::r)=some ts):∃ t rs,ts=t::rs/\pD r=some rs/\m.o.dst=some t.dm/\x.o.dst=some t.dx/\y.o.dst=none/\
 m.o.op=.mv (.c .bL)/\x.o.op=.mv (.c .bL)/\y.o.op=.EA t.kd t.d t.e t.c/\m.o.guard=none/\x.o.guard=none/\y.o.guard=none/\m.re=[]/\x.re=[]/\y.re=[]:=by
 unfold pD at h
 split at h
 · rename_i dm dx kd d e c h1 h2 h3
   split at h
   · rename_i hc
     simp only [Bool.and_eq_true,Option.isNone_iff_eq_none,List.isEmpty_iff] at hc
     obtain ⟨⟨⟨⟨⟨⟨⟨⟨c1,c2⟩,c3⟩,c4⟩,c5⟩,c6⟩,c7⟩,c8⟩,c9⟩:=hc
     cases hr:pD r with
     |none=>rw [hr] at h;cases h
     |some rs=>
      rw [hr] at h
      simp only [Option.map_some,Option.some.injEq] at h
      exact ⟨⟨dm,dx,kd,d,e,c⟩,rs,h.symm,rfl,h1,h2,c3,K1 c1,K1 c2,h3,c4,c5,c6,c7,c8,c9⟩
   · cases h
 · cases h
theorem qY.mono {frP:Fr} {K K':St->Prop}:∀ {ts:List Cc} {st:St},qY frP K ts st->(∀ st,K st->K' st)->qY frP K' ts st
 |[],_,h,hk=>hk _ h
 |_::_,_,⟨k,es,u,h1,h2,h3,h4,h5⟩,hk=>⟨k,es,u,h1,h2,h3,h4,qY.mono h5 hk⟩
theorem Gc {d:aO} (h1:d.o.op=.mv (.c .bL)) (h2:d.o.guard=none) (h3:d.re=[]) {done r:List aO} {fr:Fr} {st:St}:gD done (d::r) fr st=gD (d::done) r (fr.next d.o.dst .bL []) st:=by
 simp only [gD,h1,h2,h3,rJ]
 show (fr.after d.o.dst .bL [] fun fr=>recheck [] done fr st (gD (d::done) r fr st))=_
 rw [Fr.bW,qO]
theorem O1 {d:aO} (h2:d.o.guard=none) (h3:d.re=[]) {done r:List aO} {fr:Fr} {st:St}:gD done (d::r) fr st=(step d.o.op fr st).bind fun x=>gD (d::done) r (fr.next d.o.dst x.1 []) x.2:=by
 simp only [gD,h2,h3,rJ]
 congr 1
 funext x
 obtain ⟨v,s⟩:=x
 show (fr.after d.o.dst v [] fun fr=>recheck [] done fr s (gD (d::done) r fr s))=_
 rw [Fr.bW,qO]
section
variable {A:bK} {K:Fr×St->Prop} {frP:Fr} {C:List Nat}
theorem Gd:∀ (l:List aO) (ts:List Cc) (done:List aO) (frX:Fr) (st:St) (D:List Nat),pD l=some ts->(∀ t∈ts,(∀ s,s∈t.d.aZ\/s∈t.e.aZ\/s∈t.c.aZ->s∉C)/\t.dm∈C/\t.dx∈C)->
 (∀ s,s∉C->frX.get s=frP.get s)->(∀ s∈D,frX.get s=.bL)->(gD done l frX st).wp A K->
 qY frP (fun bA=>∃ Vr,K (Vr,bA)/\(∀ s,s∉C->Vr.get s=frP.get s)/\∀ s,s∈D\/s∈iT ts->Vr.get s=.bL) ts st
 |[],ts,done,frX,st,D,ht,_,h1,h2,h=>by
  simp only [pD,Option.some.injEq] at ht
  subst ht
  exact ⟨frX,h,h1,fun s hs=>hs.elim (h2 s) fun h=>by cases h⟩
 |[_],ts,done,frX,st,D,ht,_,_,_,_=>by simp [pD] at ht
 |[_,_],ts,done,frX,st,D,ht,_,_,_,_=>by simp [pD] at ht
 |m::x::y::r,ts,done,frX,st,D,ht,Kf,h1,h2,h=>by
  obtain ⟨t,rs,rfl,hr,e1,e2,e3,e4,e5,e6,g1,g2,g3,r1,r2,r3⟩:=K2 ht
  obtain ⟨hs,Ga,hdx⟩:=Kf t (.head _)
  rw [Gc e4 g1 r1,Gc e5 g2 r2,O1 g3 r3,T.wp_bind,e6] at h
  generalize hF:Fr.next (Fr.next frX m.o.dst .bL []) x.o.dst .bL []=F at h
  have fY:∀ s,F.get s=if s=t.dx then .bL else if s=t.dm then .bL else frX.get s:=by
   intro s
   rw [<-hF,gY,gY,e1,e2]
   simp only [Option.some.injEq,eq_comm (b:=s)]
  have hF1:∀ s,s∉C->F.get s=frP.get s:=by
   intro s lB
   rw [fY s,if_neg (fun e:s=t.dx=>lB (e▸hdx)),if_neg (fun e:s=t.dm=>lB (e▸Ga))]
   exact h1 s lB
  have ev:∀ q:bH,(∀ s∈q.aZ,s∉C)->q.ev F=q.ev frP:=fun q hq=>eV fun s lB=>hF1 s (hq s lB)
  have ed:=ev t.d fun s lB=>hs s (.inl lB)
  have ee:=ev t.e fun s lB=>hs s (.inr (.inl lB))
  have ec:=ev t.c fun s lB=>hs s (.inr (.inr lB))
  simp only [step,ed,ee,ec] at h
  split at h
  case h_2=>exact h.elim
  rename_i j9
  split at h
  case h_2=>exact h.elim
  rename_i k hk
  obtain ⟨ob,eQ,h⟩:=h
  dsimp only at h
  split at h
  case h_2=>exact h.elim
  rename_i AX es
  split at h
  case isFalse=>exact h.elim
  rename_i Iq
  subst Iq
  unfold T.opt at h
  split at h
  case h_2=>exact h.elim
  rename_i u hu
  have h:(gD (y::x::m::done) r (F.next y.o.dst (.bC []) []) (st.set k (.mp t.kd (fH es (t.e.ev frP) u)))).wp A K:=by
   exact h
  refine ⟨k,es,u,j9,hk,eQ,hu,?_⟩
  have hn:∀ s,(F.next y.o.dst (.bC []) []).get s=F.get s:=fun s=>by rw [gY,e3];simp
  have ih:=Gd r rs _ _ _ (t.dm::t.dx::D) hr (fun q hq=>Kf q (.tail _ hq)) (fun s lB=>(hn s).trans (hF1 s lB)) (fun s lB=>by
   rw [hn s,fY s]
   split
   · rfl
   · split
     · rfl
     · rename_i q1 q2
       rcases List.mem_cons.1 lB with h'|h'
       · exact absurd h' q2
       · rcases List.mem_cons.1 h' with h'|h'
         · exact absurd h' q1
         · exact h2 s h') h
  exact qY.mono ih fun bA ⟨Vr,a1,a2,a3⟩=>⟨Vr,a1,a2,fun s lB=>a3 s (by
   rcases lB with h'|h'
   · exact .inl (.tail _ (.tail _ h'))
   · rcases List.mem_cons.1 h' with h'|h'
     · exact .inl (h'▸.head _)
     · rcases List.mem_cons.1 h' with h'|h'
       · exact .inl (h'▸.tail _ (.head _))
       · exact .inr h')⟩
end
open Go
def rV (n:Nat) (ops:Array Oper) (listed:Array Bool) (t:Nat):Prop:=∃ i,eZ ops i=some t/\¬(i<n/\listed.getD i false=true)
inductive Ph (frP:Fr) (K:St->Prop) (E:Env) (a:Act) (w:World):Nat->List Cc->St->Prop
 |idle (ts:List Cc) (st:St):qY frP K ts st->Ph frP K E a w 0 ts st
 |made (t:Cc) (r:List Cc) (st:St) (k:Key) (es:List (V×V)) (u:V) (val:Value) (s:Nat):(t.e.ev frP).dA t.kd=true->t.d.ev frP=.m k->st.get k=some (.mp t.kd (fH es (t.e.ev frP) .bL))->Km k.rD (t.c.ev frP)=some u->
   qY frP K r (st.set k (.mp t.kd (fH es (t.e.ev frP) u)))->P4 w (E.μ k).bI (fH es (t.e.ev frP) .bL) (t.e.ev frP) s->a.tmps.getD t.dm undef=.tuple #[val,goInt s]->Ph frP K E a w 1 (t::r) st
 |told (t:Cc) (r:List Cc) (st:St) (k:Key) (es:List (V×V)) (u:V) (s:Nat):(t.e.ev frP).dA t.kd=true->t.d.ev frP=.m k->st.get k=some (.mp t.kd (fH es (t.e.ev frP) .bL))->Km k.rD (t.c.ev frP)=some u->
   qY frP K r (st.set k (.mp t.kd (fH es (t.e.ev frP) u)))->P4 w (E.μ k).bI (fH es (t.e.ev frP) .bL) (t.e.ev frP) s->a.tmps.getD t.dx undef=goInt s->Ph frP K E a w 2 (t::r) st
theorem St.set_set {st:St} {k:Key} {o o':Obj}:(st.set k o).set k o'=st.set k o':=by
 have hu:∀ (l:List (Nat×Obj)) (n:Nat),aC.zV (aC.zV l n o) n o'=aC.zV l n o':=by
  intro l n
  induction l with
  |nil=>rfl
  |cons q r ih=>
   obtain ⟨j,x⟩:=q
   simp only [aC.zV]
   by_cases h:j=n
   · rw [if_pos h,if_pos h];simp only [aC.zV,if_pos h]
   · rw [if_neg h,if_neg h];simp only [aC.zV,if_neg h,ih]
 obtain ⟨⟨gn,gl⟩,⟨ln,ll⟩⟩:=st
 cases k with
 |g n=>simp only [St.set,aC.set,hu]
 |l n=>simp only [St.set,aC.set,hu]
section
variable {P:Program} {N:Nat} {ops:Array Oper} {ds:List aO} {n:Nat} {Ge:List Cc} {frP:Fr} {K:St->Prop} {E:Env} {st0:St} {w0:World} {a0:Act}
structure IV (P:Program) (N:Nat) (ops:Array Oper) (n:Nat) (Ge:List Cc) (frP:Fr) (K:St->Prop) (E:Env) (st0:St) (w0:World) (a0:Act) (listed:Array Bool) (a:Act) (w:World):Prop where
 size:a.tmps.size=N
 defers:a.defers=a0.defers
 rel:∀ t,¬rV n ops listed t->Rel E (frP.get t) (a.tmps.getD t undef)
 ch:∃ (i ph q:Nat) (ts:List Cc) (st:St),i=n+3*q/\ts=Ge.drop q/\Cd P N ops i ts=true/\(∀ j,n<=j->j<ops.size->(listed.getD j false=true↔j<i+ph))/\Ph frP K E a w ph ts st/\bQ E st w/\Ext E st0 w0 E st w/\Dr st0 st
def Vs (n:Nat) (ops:Array Oper) (listed:Array Bool):List Nat:=(List.range ops.size).filterMap fun i=>if decide (i<n)&&listed.getD i false then none else eZ ops i
theorem Ds {n:Nat} {ops:Array Oper} {listed:Array Bool} {t:Nat}:t∈Vs n ops listed↔rV n ops listed t:=by
 unfold Vs rV
 rw [List.mem_filterMap]
 constructor
 · rintro ⟨i,hi,h⟩
   split at h
   · cases h
   · rename_i hc
     exact ⟨i,h,fun hh=>hc (by simp [hh.1,hh.2])⟩
 · rintro ⟨i,h,hc⟩
   refine ⟨i,List.mem_range.2 (rU h),?_⟩
   rw [if_neg (fun hh=>hc (by simpa using hh))]
   exact h
theorem IV.frame {listed:Array Bool} {a:Act} {w:World} (h:IV P N ops n Ge frP K E st0 w0 a0 listed a w):aS E N (frP.jZ (Vs n ops listed)) a:=by
 refine ⟨h.size,fun t=>?_⟩
 rw [Fr.eC]
 split
 · exact .bL _
 · rename_i hm
   rw [bU,Ds] at hm
   exact h.rel t hm
theorem Au {listed:Array Bool} {q:bH} (h:∀ s∈q.aZ,¬rV n ops listed s):q.ev (frP.jZ (Vs n ops listed))=q.ev frP:=
 eV fun s hs=>by
  rw [Fr.eC,if_neg]
  rw [bU,Ds]
  exact h s hs
theorem PR.listed (hp:PR P N ops ds n Ge) {listed:Array Bool} {i:Nat} (hi:i∈Region.ready .any ops listed) {s:Nat} (hs:s∈mS n ds Ge i) {j:Nat} (hj:eZ ops j=some s):listed.getD j false=true:=by
 obtain ⟨EP,o,ho,Dp⟩:=mem_ready.1 hi
 have he:=hp.dep i j s (Array.getElem?_eq_some_iff.1 ho).1 hj hs
 unfold sR at he
 rw [ho] at he
 simp only [mR,List.contains_eq_mem,List.mem_map,List.mem_filter,decide_eq_true_eq] at he
 obtain ⟨e,⟨h1,h2⟩,rfl⟩:=he
 exact Dp e (Array.mem_toList_iff.1 h1) h2
theorem PR.ahead (hp:PR P N ops ds n Ge) {listed:Array Bool} {i:Nat} (hi:i∈Region.ready .any ops listed) (hn:n<i):listed.getD (i - 1) false=true:=by
 obtain ⟨EP,o,ho,Dp⟩:=mem_ready.1 hi
 have he:=hp.ch i hn (Array.getElem?_eq_some_iff.1 ho).1
 unfold sR at he
 rw [ho] at he
 simp only [mR,List.contains_eq_mem,List.mem_map,List.mem_filter,decide_eq_true_eq] at he
 obtain ⟨e,⟨h1,h2⟩,h3⟩:=he
 have:=Dp e (Array.mem_toList_iff.1 h1) h2
 rwa [h3] at this
theorem PR.all (hp:PR P N ops ds n Ge) {listed:Array Bool} (yP:listed.size=ops.size) (hr:Region.ready .any ops listed=[]):∀ i,i<ops.size->listed.getD i false=true:=by
 intro i
 induction i using Nat.strongRecOn with
 |_ i ih=>
  intro hi
  cases hq:listed.getD i true with
  |true=>
   simp only [Array.getD_eq_getD_getElem?] at hq ⊢
   have:i<listed.size:=by omega
   simp [this] at hq ⊢;exact hq
  |false=>
   have:i∈Region.ready .any ops listed:=mem_ready.2 ⟨hq,ops[i],by simp [hi],fun e he hb=>by
    have dZ:e.on<i:=hp.back i e.on (by
     unfold sR
     rw [Array.getElem?_eq_getElem hi]
     simp only [mR,List.contains_eq_mem,List.mem_map,List.mem_filter,decide_eq_true_eq]
     exact ⟨e,⟨by rw [Array.mem_toList_iff];exact he,hb⟩,rfl⟩)
    exact ih e.on dZ (by omega)⟩
   rw [hr] at this
   cases this
end
open Go
theorem uG {P:Program} {N:Nat} {ops:Array Oper} {i:Nat} {t:Cc} (h:okT P N ops i t=true):∃ om ox oy ty mx my tx ex ev kt el,ops[i]? =some om/\ops[i+1]? =some ox/\ops[i+2]? =some oy/\om.dst=some t.dm/\ox.dst=some t.dx/\oy.dst=none/\t.dm<N/\t.dx<N/\
 om.op=.mapEntry ty mx my/\ox.op=.extract (.tmp t.dm) 1/\oy.op=.entryStore tx ex (.tmp t.dx) ev/\cZ mx t.d=true/\cZ my t.e=true/\cZ ex t.d=true/\cZ ev t.c=true/\P.underlying ty=some (.map kt el)/\s6 P kt t.kd=true/\∃ f z,P.info? el=some f/\f.zero=some z:=by
 unfold okT at h
 split at h
 · rename_i om ox oy h1 h2 h3
   simp only [Bool.and_eq_true,decide_eq_true_eq,Option.isNone_iff_eq_none] at h
   obtain ⟨⟨⟨⟨⟨g1,g2⟩,g3⟩,g4⟩,g5⟩,h⟩:=h
   split at h
   · rename_i ty mx my tp tx ex sx ev o1 o2 o3
     simp only [Bool.and_eq_true,decide_eq_true_eq] at h
     obtain ⟨⟨⟨⟨⟨⟨q1,q2⟩,q3⟩,q4⟩,q5⟩,q6⟩,h⟩:=h
     subst q1 q2
     split at h
     · rename_i kt el hu
       simp only [Bool.and_eq_true] at h
       obtain ⟨k1,h⟩:=h
       split at h
       · rename_i f hf
         obtain ⟨z,hz⟩:=Option.isSome_iff_exists.1 h
         exact ⟨om,ox,oy,ty,mx,my,tx,ex,ev,kt,el,h1,h2,h3,g1,g2,g3,g4,g5,o1,o2,o3,q3,q4,q5,q6,hu,k1,f,z,hf,hz⟩
       · cases h
     · cases h
   · cases h
 · cases h
theorem Dt {P:Program} {N:Nat} {ops:Array Oper}:∀ {ts:List Cc} {i j s:Nat},Cd P N ops i ts=true->i<=j->eZ ops j=some s->s∈iT ts
 |[],i,j,s,h,hj,hd=>by
  simp only [Cd,decide_eq_true_eq] at h
  have:=rU hd
  omega
 |t::r,i,j,s,h,hj,hd=>by
  simp only [Cd,Bool.and_eq_true] at h
  obtain ⟨om,ox,oy,_,_,_,_,_,_,_,_,h1,h2,h3,g1,g2,g3,_⟩:=uG h.1
  rcases (show j=i\/j=i+1\/j=i+2\/i+3<=j by omega) with rfl|rfl|rfl|hj3
  · simp only [eZ,h1,Option.bind_some,g1,Option.some.injEq] at hd
    subst hd;exact .head _
  · simp only [eZ,h2,Option.bind_some,g2,Option.some.injEq] at hd
    subst hd;exact .tail _ (.head _)
  · simp [eZ,h3,g3] at hd
  · exact .tail _ (.tail _ (Dt h.2 hj3 hd))
section
variable {P:Program} {N:Nat} {ops:Array Oper} {ds:List aO} {n:Nat} {Ge:List Cc} {frP:Fr} {K:St->Prop} {E:Env} {st0:St} {w0:World} {a0:Act} {Q:Exit->Act->World->Prop}
theorem Rr (hp:PR P N ops ds n Ge) {listed:Array Bool} {i s:Nat} (hi:n<=i) (hd:eZ ops i=some s):rV n ops listed s:=⟨i,hd,fun h=>by omega⟩
theorem P6 {listed:Array Bool} {i s:Nat} (yP:listed.size=ops.size) (hil:i<ops.size) (h:rV n ops listed s) (dX:i<n->eZ ops i≠some s):rV n ops (listed.setIfInBounds i true) s:=by
 obtain ⟨j,h1,h2⟩:=h
 refine ⟨j,h1,fun hh=>h2 ⟨hh.1,?_⟩⟩
 by_cases An:i=j
 · subst An;exact absurd h1 (dX hh.1)
 · have:=hh.2
   simp only [Array.getD_eq_getD_getElem?] at this ⊢
   rwa [Array.getElem?_setIfInBounds_ne An] at this
theorem Du {listed:Array Bool} {i j:Nat} (hil:i<listed.size):(listed.setIfInBounds i true).getD j false=true↔j=i\/listed.getD j false=true:=by
 by_cases h:i=j
 · subst h
   simp [Array.getD_eq_getD_getElem?,hil]
 · simp only [Array.getD_eq_getD_getElem?]
   rw [Array.getElem?_setIfInBounds_ne h]
   exact ⟨.inr,fun hh=>hh.elim (fun e=>absurd e.symm h) id⟩
theorem aoO {o:Oper} {a:Act} (hg:o.guard=none):Region.wanted o (yielded ops a.tmps)=true:=by simp [Region.wanted,hg]
theorem Rs (hp:PR P N ops ds n Ge) (O2:∀ i d,i<n->ds[i]? =some d->∃ v t,d.o.dst=some t/\frP.get t=v/\(step d.o.op frP st0).Yields (aE P) st0 v) {listed:Array Bool} {a:Act} {w:World} (yP:listed.size=ops.size)
 (h:IV P N ops n Ge frP K E st0 w0 a0 listed a w) {i:Nat} (hi:i∈Region.ready .any ops listed):wpOp P ops Q i (fun a1 w1=>IV P N ops n Ge frP K E st0 w0 a0 (listed.setIfInBounds i true) a1 w1) a w:=by
 obtain ⟨EP,o,ho,_⟩:=mem_ready.1 hi
 have hil:i<ops.size:=(Array.getElem?_eq_some_iff.1 ho).1
 have hll:i<listed.size:=by omega
 have ax3:¬listed.getD i false=true:=by
  simp only [Array.getD_eq_getD_getElem?] at EP ⊢
  simp [hll] at EP ⊢;exact EP
 unfold wpOp
 simp only [ho]
 rw [if_pos (aoO (hp.gd i o ho))]
 refine .inl ?_
 have K3:=h.frame
 obtain ⟨i0,ph,q,ts,st,c1,c2,c3,c4,c5,c6,c7,c8⟩:=h.ch
 by_cases qM:i<n
 · -- a quiet one
   have hq:=hp.q i qM
   unfold okQ at hq
   cases hd:ds[i]? with
   |none=>rw [hd] at hq;cases hq
   |some d=>
    rw [hd,ho] at hq
    simp only [Bool.and_eq_true,decide_eq_true_eq] at hq
    obtain ⟨⟨⟨⟨⟨q1,q2⟩,q3⟩,q4⟩,q5⟩,q6⟩:=hq
    obtain ⟨v,t,v1,v2,v3⟩:=O2 i d qM hd
    have hot:o.dst=some t:=by rw [<-q5];exact v1
    have hdi:eZ ops i=some t:=by simp [eZ,ho,hot]
    rw [hot] at q6
    simp only [Bool.and_eq_true,decide_eq_true_eq] at q6
    have hnb:∀ s∈d.o.op.aZ,¬rV n ops listed s:=by
     rintro s hs ⟨j,hj,Vt⟩
     have Kf:s∈mS n ds Ge i:=by unfold mS;rw [if_pos qM,hd];exact hs
     have hlj:=hp.listed hi Kf hj
     have:=hp.back i j (hp.dep i j s hil hj Kf)
     exact Vt ⟨by omega,hlj⟩
    have hy:=aoM q1 c8 v3
    rw [<-iX (fr:=frP.jZ (Vs n ops listed)) (fun s hs=>by rw [Fr.eC,if_neg];rw [bU,Ds];exact hnb s hs) st] at hy
    refine aoK q1 q2 c6 K3 hy fun x hx=>⟨by rw [pC];exact h.size,by rw [put_defers];exact h.defers,fun s hs=>?_,i0,ph,q,ts,st,c1,c2,c3,fun j hj Ca=>?_,?_,c6,c7,c8⟩
    · by_cases CA:s=t
      · subst CA
        rw [hot,iR (by rw [h.size];exact q6.1),v2]
        exact hx
      · rw [pB (by rw [hot];simpa using Ne.symm CA)]
        exact h.rel s fun hb=>hs (P6 yP hil hb fun _=>by rw [hdi];simpa using Ne.symm CA)
    · rw [Du hll,c4 j hj Ca]
      constructor
      · rintro (h1|h1)
        · omega
        · exact h1
      · exact .inr
    · have rK:∀ s,s∈iT ts->(∃ j,n<=j/\eZ ops j=some s)->(a.put o.dst x).tmps.getD s undef=a.tmps.getD s undef:=by
       rintro s _ ⟨j,hj,hdj⟩
       refine pB ?_
       rw [hot]
       intro e
       cases e
       have:=hp.nd i j t hdi hdj
       omega
      cases c5 with
      |idle _ _ hT=>exact .idle _ _ hT
      |made t' r _ k es u val s b1 b2 b3 b4 b5 b6 b7=>
       simp only [Cd,Bool.and_eq_true] at c3
       obtain ⟨om,ox,oy,_,_,_,_,_,_,_,_,h1,h2,h3,g1,g2,g3,_⟩:=uG c3.1
       refine .made t' r _ k es u val s b1 b2 b3 b4 b5 b6 ?_
       rw [rK t'.dm (.head _) ⟨i0,by omega,by simp [eZ,h1,g1]⟩];exact b7
      |told t' r _ k es u s b1 b2 b3 b4 b5 b6 b7=>
       simp only [Cd,Bool.and_eq_true] at c3
       obtain ⟨om,ox,oy,_,_,_,_,_,_,_,_,h1,h2,h3,g1,g2,g3,_⟩:=uG c3.1
       refine .told t' r _ k es u s b1 b2 b3 b4 b5 b6 ?_
       rw [rK t'.dx (.tail _ (.head _)) ⟨i0+1,by omega,by simp [eZ,h2,g2]⟩];exact b7
 · -- one of Og chain
   have qM:n<=i:=by omega
   have C5:i=i0+ph:=by
    have h1:¬i<i0+ph:=fun hh=>ax3 ((c4 i qM hil).2 hh)
    rcases Nat.lt_or_ge (i0+ph) i with h2|h2
    · have h3:=hp.ahead hi (show n<i by omega)
      have:=(c4 (i - 1) (by omega) (by omega)).1 h3
      omega
    · omega
   have Vu:∀ j,n<=j->j<ops.size->((listed.setIfInBounds i true).getD j false=true↔j<i0+(ph+1)):=by
    intro j hj Ca
    rw [Du hll,c4 j hj Ca]
    omega
   have aoP:∀ s,(∀ j,n<=j->eZ ops j≠some s)->s∈mS n ds Ge i->¬rV n ops listed s:=by
    rintro s Ev wV ⟨j,hj,Vt⟩
    have hlj:=hp.listed hi wV hj
    rcases Nat.lt_or_ge j n with h1|h1
    · exact Vt ⟨h1,hlj⟩
    · exact Ev j h1 hj
   have hqi:(i - n)/3=q+ph/3/\(i - n)%3=ph%3:=by omega
   cases hts:ts with
   |nil=>
    rw [hts] at c3 c5
    simp only [Cd,decide_eq_true_eq] at c3
    cases c5
    omega
   |cons t r=>
    rw [hts] at c3 c5 c2
    have c3':=c3
    simp only [Cd,Bool.and_eq_true] at c3
    obtain ⟨om,ox,oy,ty,mx,my,tx,ex,ev,kt,el,h1,h2,h3,g1,g2,g3,n1,n2,o1,o2,o3,x1,x2,x3,x4,u1,u2,inf⟩:=uG c3.1
    have hq0:Ge[q]? =some t:=by
     have:=congrArg (·[0]?) c2
     simp only [List.getElem?_drop,List.getElem?_cons_zero,Nat.add_zero] at this
     exact this.symm
    have htm:t∈Ge:=List.mem_of_getElem? hq0
    have hch:∀ s,s∈t.d.aZ\/s∈t.e.aZ\/s∈t.c.aZ->∀ j,n<=j->eZ ops j≠some s:=by
     intro s hs j hj hdj
     have aeV:=Dt hp.oks hj hdj
     obtain ⟨z1,z2,z3⟩:=hp.sl t htm s aeV
     rcases hs with hs|hs|hs
     · exact z1 hs
     · exact z2 hs
     · exact z3 hs
    have ajC:∀ (o':Oper) (x:Value),(o'.dst=none\/∃ s,o'.dst=some s/\eZ ops i=some s)->∀ s,¬rV n ops (listed.setIfInBounds i true) s->Rel E (frP.get s) ((a.put o'.dst x).tmps.getD s undef):=by
     intro o' x ho' s hs
     have hnb:¬rV n ops listed s:=fun hb=>hs (P6 yP hil hb fun hh=>by omega)
     rw [pB]
     · exact h.rel s hnb
     · rcases ho' with e|⟨s',e,hd⟩
       · rw [e];simp
       · rw [e]
         intro e2
         cases e2
         exact hnb (Rr hp qM hd)
    cases c5 with
    |idle _ _ hT=>
     have hii:i=i0:=C5
     subst hii
     rw [ho] at h1;cases h1
     obtain ⟨k,es,u,b1,b2,b3,b4,b5⟩:=hT
     have Kf:∀ s,s∈t.d.aZ\/s∈t.e.aZ->¬rV n ops listed s:=fun s hs=>aoP s (hch s (hs.elim .inl fun h=>.inr (.inl h))) (by
      unfold mS
      rw [if_neg (by omega),show (i - n)/3=q by omega,hq0]
      simp only [show (i - n)%3=0 by omega,if_true,List.mem_append]
      exact hs)
     have r1:=aQ x1 K3
     rw [Au fun s hs=>Kf s (.inl hs),b2] at r1
     have r2:=aQ x2 K3
     rw [Au fun s hs=>Kf s (.inr hs)] at r2
     obtain ⟨val,s,w',e1,e2,e3,e4⟩:=Vp o1 u1 u2 inf c6 r1 r2 b1 b3
     refine aP e1 ⟨by rw [pC];exact h.size,by rw [put_defers];exact h.defers,ajC o _ (.inr ⟨t.dm,g1,by simp [eZ,ho,g1]⟩),i,1,q,t::r,_,c1,c2,c3',fun j hj Ca=>(Vu j hj Ca),?_,e2,c7.trans e3,c8.set b3 _⟩
     refine .made t r _ k es u val s b1 b2 (by rw [St.Ac,if_pos rfl,b3];rfl) b4 (by rw [St.set_set];exact b5) e4 ?_
     rw [g1,iR (by rw [h.size];exact n1)]
    |made _ _ _ k es u val s b1 b2 b3 b4 b5 b6 b7=>
     have hii:i=i0+1:=C5
     rw [<-hii,ho] at h2;cases h2
     refine aP (x:=goInt s) (w':=w) (by simp [execOp,o2,Act.eval,b7,Instr.extract]) ⟨by rw [pC];exact h.size,by rw [put_defers];exact h.defers,ajC o _ (.inr ⟨t.dx,g2,by simp [eZ,ho,g2]⟩),i0,2,q,t::r,_,c1,c2,c3',fun j hj Ca=>(Vu j hj Ca),?_,c6,c7,c8⟩
     refine .told t r _ k es u s b1 b2 b3 b4 b5 b6 ?_
     rw [g2,iR (by rw [h.size];exact n2)]
    |told _ _ _ k es u s b1 b2 b3 b4 b5 b6 b7=>
     have hii:i=i0+2:=C5
     rw [<-hii,ho] at h3;cases h3
     have Kf:∀ s,s∈t.d.aZ\/s∈t.c.aZ->¬rV n ops listed s:=fun s hs=>aoP s (hch s (hs.elim .inl fun h=>.inr (.inr h))) (by
      unfold mS
      rw [if_neg (by omega),show (i - n)/3=q by omega,hq0]
      simp only [show (i - n)%3=2 by omega]
      rw [if_neg (by omega),if_neg (by omega)]
      simp only [List.mem_append]
      exact .inl hs)
     have r1:=aQ x3 K3
     rw [Au fun s hs=>Kf s (.inl hs),b2] at r1
     have r3:=aQ x4 K3
     rw [Au fun s hs=>Kf s (.inr hs)] at r3
     have r3:=KI b4 r3
     rw [<-Env.tQ] at r3
     obtain ⟨w',e1,e2,e3⟩:=aeW o3 c6 r1 (by simpa [Act.eval] using b7) r3 b1 b3 b6
     refine CV e1 ⟨by rw [pC];exact h.size,by rw [put_defers];exact h.defers,ajC o _ (.inl g3),i0+3,0,q+1,r,_,by omega,?_,c3.2,fun j hj Ca=>?_,.idle _ _ b5,e2,c7.trans e3,c8.set b3 _⟩
     · have:=congrArg (·.drop 1) c2
       simp only [List.drop_succ_cons,List.drop_zero,List.drop_drop] at this
       exact this
     · rw [Vu j hj Ca]
end
open Go
section
variable {P:Program} {N:Nat} {ops:Array Oper} {ds:List aO} {n:Nat} {Ge:List Cc} {frP:Fr} {K:St->Prop} {E:Env} {st0:St} {w0:World} {a0:Act} {Q:Exit->Act->World->Prop}
def ixD (ops:Array Oper):List aO:=(List.range ops.size).map fun i=>{ (default:aO) with ix:=i }
theorem Rt:((ixD ops).map (·.ix)).Nodup:=by
 unfold ixD
 rw [List.map_map]
 have:((fun x:aO=>x.ix) ∘ fun i=>{ (default:aO) with ix:=i })=id:=rfl
 rw [this,List.map_id]
 exact List.nodup_range
theorem P7 {i:Nat} (h:i<ops.size):{ (default:aO) with ix:=i }∈ixD ops:=List.mem_map.2 ⟨i,List.mem_range.2 h,rfl⟩
theorem Vv (hp:PR P N ops ds n Ge) (O2:∀ i d,i<n->ds[i]? =some d->∃ v t,d.o.dst=some t/\frP.get t=v/\(step d.o.op frP st0).Yields (aE P) st0 v)
 (hQ:∀ listed a w,IV P N ops n Ge frP K E st0 w0 a0 listed a w->(∀ i,i<ops.size->listed.getD i false=true)->Q .normal a w):
 ∀ (fuel:Nat) {listed:Array Bool} {a:Act} {w:World},IV P N ops n Ge frP K E st0 w0 a0 listed a w->listed.size=ops.size->fK listed (ixD ops)<=fuel->wpAny P .any ops Q fuel listed a w:=by
 intro fuel
 induction fuel with
 |zero=>
  intro listed a w h yP hc
  have Da:=sO (listed:=listed) (l:=ixD ops) (by omega)
  have hr:Region.ready .any ops listed=[]:=by
   rw [List.eq_nil_iff_forall_not_mem]
   intro i hi
   obtain ⟨EP,o,ho,_⟩:=mem_ready.1 hi
   exact Da _ (P7 (Array.getElem?_eq_some_iff.1 ho).1) EP
  exact ⟨hr,hQ _ _ _ h (hp.all yP hr)⟩
 |succ fuel ih=>
  intro listed a w h yP hc
  refine ⟨fun hr=>hQ _ _ _ h (hp.all yP hr),fun i hi=>?_⟩
  refine wpOp_mono (fun a1 w1 h1=>?_) (Rs hp O2 yP h hi)
  obtain ⟨EP,o,ho,_⟩:=mem_ready.1 hi
  have hil:=(Array.getElem?_eq_some_iff.1 ho).1
  refine ih h1 (by simpa using yP) ?_
  have:=uF (d:={ (default:aO) with ix:=i }) (listed:=listed) (by simpa [yP] using hil) EP Rt (P7 hil)
  dsimp only at this
  omega
end
theorem pair_ok {P:Program} {N:Nat} {ops:Array Oper} {ds:List aO} (hk:Vq P N ops ds=true) {id:Nat} {E:Env} {st:St} {w:World} {fr:Fr} {a:Act} {K:Fr×St->Prop} {Q:Exit->Act->World->Prop} (hs:bQ E st w) (hf:aS E N fr a)
 (hw:(gD [] ds fr st).wp (aE P) K)
 (hQ:∀ bV bA E' a' w',K (bV,bA)->bQ E' bA w'->Ext E st w E' bA w'->aS E' N bV a'->a'.defers=a.defers->Q .normal a' w'):
 (Code.region id ops true).wp P Q a w:=by
 obtain ⟨n,ts,hp⟩:=Rq hk
 refine wp_region_any hp.md ?_
 have hdl:=hp.len
 have hle:=hp.le
 have hqd:∀ i,i<n->∃ d o t,ds[i]? =some d/\ops[i]? =some o/\qOp d.o.op=true/\d.o.guard=none/\d.re=[]/\d.o.dst=some t/\o.dst=some t/\t∉d.o.op.aZ:=by
  intro i hi
  have hq:=hp.q i hi
  unfold okQ at hq
  have hd:ds[i]? =some ds[i]:=List.getElem?_eq_getElem (by omega)
  have ho:ops[i]? =some ops[i]:=Array.getElem?_eq_getElem (by omega)
  rw [hd,ho] at hq
  simp only [Bool.and_eq_true,decide_eq_true_eq,Option.isNone_iff_eq_none,List.isEmpty_iff] at hq
  obtain ⟨⟨⟨⟨⟨q1,q2⟩,q3⟩,q4⟩,q5⟩,q6⟩:=hq
  cases hod:ops[i].dst with
  |none=>rw [hod] at q6;cases q6
  |some t=>
   rw [hod] at q6
   simp only [Bool.and_eq_true,decide_eq_true_eq,Bool.not_eq_true',List.contains_eq_mem,decide_eq_false_iff_not] at q6
   exact ⟨_,_,t,hd,ho,q1,q3,q4,by rw [q5,hod],hod,q6.2⟩
 have ajD:ds=ds.take n++ds.drop n:=(List.take_append_drop n ds).symm
 rw [ajD] at hw
 obtain ⟨frP,KZ,w1,w2,w3⟩:=P5 (pre:=ds.take n) (by
  intro d hd
  obtain ⟨i,hi,rfl⟩:=List.mem_iff_getElem.1 hd
  simp only [List.length_take] at hi
  obtain ⟨d',o,t,z1,z2,z3,z4,z5,z6,z7,z8⟩:=hqd i (by omega)
  rw [List.getElem_take]
  rw [List.getElem?_eq_getElem (by omega)] at z1
  cases z1
  exact ⟨z3,z4,z5,t,z6,z8⟩) (by
  rw [List.pairwise_iff_getElem]
  intro i j hi hj An
  simp only [List.length_take] at hi hj
  obtain ⟨d',o,t,z1,z2,z3,z4,z5,z6,z7,z8⟩:=hqd i (by omega)
  obtain ⟨d'',o',t',y1,y2,y3,y4,y5,y6,y7,y8⟩:=hqd j (by omega)
  rw [List.getElem_take,List.getElem_take]
  rw [List.getElem?_eq_getElem (by omega)] at z1 y1
  cases z1;cases y1
  have di:eZ ops i=some t:=by simp [eZ,z2,z7]
  have dj:eZ ops j=some t':=by simp [eZ,y2,y7]
  refine ⟨fun e=>?_,fun s hs wV=>?_⟩
  · rw [z6,y6] at e
    cases e
    have:=hp.nd i j t di dj
    omega
  · rw [y6] at hs
    cases hs
    have:=hp.back i j (hp.dep i j t' (by omega) dj (by
     unfold mS
     rw [if_pos (by omega),List.getElem?_eq_getElem (by omega)]
     exact wV))
    omega) hw
 have hC:=Gd (C:=iT ts) (frP:=frP) _ ts KZ frP st [] hp.tri (fun t ht=>⟨fun s hs hc=>by
  obtain ⟨z1,z2,z3⟩:=hp.sl t ht s hc
  rcases hs with h|h|h
  · exact z1 h
  · exact z2 h
  · exact z3 h,by
  have:∀ {l:List Cc},t∈l->t.dm∈iT l/\t.dx∈iT l:=by
   intro l
   induction l with
   |nil=>intro h;cases h
   |cons q r ih=>
    intro h
    rcases List.mem_cons.1 h with rfl|h
    · exact ⟨.head _,.tail _ (.head _)⟩
    · exact ⟨.tail _ (.tail _ (ih h).1),.tail _ (.tail _ (ih h).2)⟩
  exact this ht⟩) (fun _ _=>rfl) (fun s h=>by cases h) w1
 have O2:∀ i d,i<n->ds[i]? =some d->∃ v t,d.o.dst=some t/\frP.get t=v/\(step d.o.op frP st).Yields (aE P) st v:=by
  intro i d hi hd
  refine w2 d ?_
  rw [List.mem_iff_getElem?]
  exact ⟨i,by rw [List.getElem?_take,if_pos hi];exact hd⟩
 refine Vv (E:=E) (st0:=st) (w0:=w) (a0:=a) hp O2 (K:=fun bA=>∃ Vr,K (Vr,bA)/\(∀ s,s∉iT ts->Vr.get s=frP.get s)/\∀ s,s∈[]\/s∈iT ts->Vr.get s=.bL) ?_ ops.size ?_ (by simp) ?_
 · intro listed a' w' h B7
   obtain ⟨i0,ph,q,ts',bA,c1,c2,c3,c4,c5,c6,c7,c8⟩:=h.ch
   cases ts' with
   |cons t r=>
    have c3':=c3
    simp only [Cd,Bool.and_eq_true] at c3
    obtain ⟨om,ox,oy,_,_,_,_,_,_,_,_,h1,h2,h3,_⟩:=uG c3.1
    have dZ:=(Array.getElem?_eq_some_iff.1 h3).1
    have:=(c4 (i0+2) (by omega) dZ).1 (B7 _ dZ)
    cases c5<;>omega
   |nil=>
    cases c5 with
    |idle _ _ hT=>
     obtain ⟨Vr,k1,k2,k3⟩:=hT
     refine hQ Vr bA E a' w' k1 c6 c7 ⟨h.size,fun t=>?_⟩ h.defers
     by_cases ht:t∈iT ts
     · rw [k3 t (.inr ht)];exact .bL _
     · rw [k2 t ht]
       refine h.rel t ?_
       rintro ⟨j,hj,Vt⟩
       rcases Nat.lt_or_ge j n with h1|h1
       · exact Vt ⟨h1,B7 j (rU hj)⟩
       · exact ht (Dt hp.oks h1 hj)
 · refine ⟨hf.size,rfl,fun t ht=>?_,n,0,0,ts,st,rfl,rfl,hp.oks,fun j hj Ca=>?_,.idle _ _ hC,hs.of_heap (w:=w) (w':={ w with drawn:=w.drawn+1 }) rfl,Ext.drawn (w.drawn+1),fun k ob h _=>h⟩
   · rw [w3 t fun d hd e=>?_]
     · exact hf.rel t
     · obtain ⟨i,hi,rfl⟩:=List.mem_iff_getElem.1 hd
       simp only [List.length_take] at hi
       rw [List.getElem_take] at e
       obtain ⟨d',o,t',z1,z2,z3,z4,z5,z6,z7,z8⟩:=hqd i (by omega)
       rw [List.getElem?_eq_getElem (by omega)] at z1
       cases z1
       rw [z6] at e
       cases e
       exact ht ⟨i,by simp [eZ,z2,z7],fun hh=>by
        have:=hh.2
        simp [Array.getD_eq_getD_getElem?,show i<ops.size by omega] at this⟩
   · simp [Array.getD_eq_getD_getElem?,Ca]
     omega
 · have:∀ l:List aO,fK (Array.replicate ops.size false) l<=l.length:=yQ _
   have h2:=this (ixD ops)
   have h3:(ixD ops).length=ops.size:=by simp [ixD]
   omega
theorem drawP_ok {P:Program} {N:Nat} {ops:Array Oper} {ds:List aO} (hk:Bb P N ops ds=true\/Vq P N ops ds=true) {id:Nat} {E:Env} {st:St} {w:World} {fr:Fr} {a:Act} {K:Fr×St->Prop} {Q:Exit->Act->World->Prop} (hs:bQ E st w) (hf:aS E N fr a)
 (hw:(gD [] ds fr st).wp (aE P) K)
 (hQ:∀ bV bA E' a' w',K (bV,bA)->bQ E' bA w'->Ext E st w E' bA w'->aS E' N bV a'->a'.defers=a.defers->Q .normal a' w'):
 (Code.region id ops true).wp P Q a w:=
 hk.elim (fun h=>draw_ok h hs hf hw hQ) fun h=>pair_ok h hs hf hw hQ
end Go.Eng
