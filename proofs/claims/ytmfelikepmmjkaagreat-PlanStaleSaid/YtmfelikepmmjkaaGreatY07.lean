/-
Regions whose order is drawn: one order serves for all.
-/
import Derived.Test.YtmfelikepmmjkaaGreatY05
import Derived.Test.YtmfelikepmmjkaaGreatY06
import Derived.Orders
set_option linter.unusedVariables false
set_option linter.unusedSimpArgs false
namespace Go.Eng
open Go
inductive NK (ops:Array Oper):Nat->Nat->Prop
 |YE {i:Nat} {o:Oper} {e:Edge} (ho:ops[i]? =some o) (he:e∈o.after) (hb:Region.binds .any e=true):NK ops i e.on
 |far {i j:Nat} {o:Oper} {e:Edge} (ho:ops[i]? =some o) (he:e∈o.after) (hb:Region.binds .any e=true) (h:NK ops e.on j):NK ops i j
def look:List (Nat×Nat)->Nat->Nat
 |[],_=>0
 |(k,l)::r,n=>match Nat.beq k n with
  |true=>l
  |false=>look r n
def Cz (o:Oper):List Nat:=(o.after.toList.filter (Region.binds .any)).map (·.on)
def nG (j m:Nat):Bool:=Nat.testBit m j
def Dq (Dr:List (Nat×Nat)):List Nat->Nat->Nat
 |[],m=>m
 |j::r,m=>Dq Dr r (Nat.lor m (Nat.lor (Nat.shiftLeft 1 j) (look Dr j)))
theorem BB (Dr:List (Nat×Nat)) (j:Nat):∀ (l:List Nat) (m:Nat),nG j (Dq Dr l m)=true->nG j m=true\/∃ k,k∈l/\(j=k\/nG j (look Dr k)=true)
 |[],m,h=>.inl h
 |k::r,m,h=>by
  rcases BB Dr j r _ h with h|⟨q,hq,h⟩
  · simp only [nG] at h ⊢
    have h:(m|||((1<<<k)|||look Dr k)).testBit j=true:=h
    rw [Nat.testBit_or,Nat.testBit_or] at h
    simp only [Bool.or_eq_true] at h
    rcases h with h|h|h
    · exact .inl h
    · refine .inr ⟨k,by simp,.inl ?_⟩
      rw [Nat.testBit_shiftLeft] at h
      simp only [ge_iff_le,Bool.and_eq_true,decide_eq_true_eq] at h
      have:=Nat.testBit_one_eq_true_iff_self_eq_zero.1 h.2
      omega
    · exact .inr ⟨k,by simp,.inr h⟩
  · exact .inr ⟨q,by simp [hq],h⟩
def G1 (ops:Array Oper) (Dr:List (Nat×Nat)) (i:Nat):List (Nat×Nat):=
 match ops[i]? with
 |some o=>(i,Dq Dr (Cz o) 0)::Dr
 |none=>Dr
def KT (ops:Array Oper):List Nat->List (Nat×Nat)->List (Nat×Nat)
 |[],Dr=>Dr
 |i::r,Dr=>KT ops r (G1 ops Dr i)
def Ds (ops:Array Oper) (Dr:List (Nat×Nat)):Prop:=∀ i j,nG j (look Dr i)=true->NK ops i j
theorem ancStep_ok {ops:Array Oper} {Dr:List (Nat×Nat)} (h:Ds ops Dr) (i:Nat):Ds ops (G1 ops Dr i):=by
 unfold G1
 split
 · rename_i o ho
   intro i' j hj
   simp only [look] at hj
   split at hj
   · rename_i hb
     have:=Nat.eq_of_beq_eq_true hb
     subst this
     rcases BB _ _ _ _ hj with hj|⟨k,hk,hj⟩
     · simp [nG] at hj
     simp only [Cz,List.mem_map,List.mem_filter] at hk
     obtain ⟨e,⟨he,hb⟩,rfl⟩:=hk
     have he:e∈o.after:=by simpa using he
     rcases hj with rfl|hj
     · exact .YE ho he hb
     · exact .far ho he hb (h _ _ hj)
   · exact h i' j hj
 · exact h
theorem ancTab_ok {ops:Array Oper}:∀ (l:List Nat) {Dr:List (Nat×Nat)},Ds ops Dr->Ds ops (KT ops l Dr)
 |[],_,h=>h
 |i::r,_,h=>ancTab_ok r (ancStep_ok h i)
def Mi (ops:Array Oper) (l:List Nat):List (Nat×Nat):=KT ops l []
theorem allAncs_ok (ops:Array Oper) (l:List Nat):Ds ops (Mi ops l):=ancTab_ok l (fun i j h=>by simp [look,nG] at h)
def PV (g:Option (Nat×Bool)):List Nat:=
 match g with
 |some (t,_)=>[t]
 |none=>[]
def bB.reads (d:bB):List Nat:=PV d.o.guard++d.o.op.cF
def bB.is (d:bB) (t:Nat):Bool:=
 match d.o.dst with
 |some n=>Nat.beq n t
 |none=>false
def uD (d:bB):Bool:=
 match d.o.op,d.o.guard with
 |.alloc _ _,none=>d.j3
 |_,_=>false
def KU (Mj:List (Nat×Nat)) (d e:bB):Bool:=
 -- KV writes KF an abT one looks at,or wrote
 (match e.o.dst with
 |some n=>(!cK n d.reads&&!d.is n)||(e.j3&&nG d.ix (look Mj e.ix))
 |none=>true)&&
 -- KF one looks at of Kr YF own comes from an YG
 (match d.o.dst with
 |some n=>!cK n e.reads||nG d.ix (look Mj e.ix)
 |none=>true)&&
 -- behind a j3 one all are its UA,but for new objects
 (!d.j3||nG d.ix (look Mj e.ix)||uD e)&&
 -- a j3 one:KF was before it,and it ajO not wait for,is pure or looked at again
 (!e.j3||d.j3||nG d.ix (look Mj e.ix)||Dp d.o.op||cK d.ix e.re)&&
 (!cK d.ix e.re||(e.j3&&!d.j3))&&
 -- a new object SJ KV waits to make:KV adE slot
 (!uD e||match e.o.dst with
 |some n=>!d.is n
 |none=>true)
def CA (Mj:List (Nat×Nat)):List bB->Bool
 |[]=>true
 |d::r=>r.all (KU Mj d)&&CA Mj r
def PW (P:Program) (N:Nat) (ops:Array Oper) (d:bB):Bool:=
 match ops[d.ix]? with
 |some o=>KQ P o.op d.o.op&&decide (d.o.dst=o.dst)&&ID N o.dst&&lB ops o.guard d.o.guard&&(d.j3||jN d.o.op)&&
   (match d.o.dst with
   |some n=>!cK n d.reads
   |none=>true)
 |none=>false
def CB (ops:Array Oper):List Nat->List bB->Bool
 |_,[]=>true
 |seen,d::r=>(match ops[d.ix]? with
  |some o=>(Cz o).all fun j=>cK j seen
  |none=>false)&&!cK d.ix seen&&CB ops (d.ix::seen) r
def Dt (P:Program) (N:Nat) (ops:Array Oper) (ds:List bB):Bool:=
 P.follows .mixedOrders&&decide (ds.length=ops.size)&&ds.all (PW P N ops)&&CA (Mi ops (ds.map (·.ix))) ds&&CB ops [] ds
theorem CC {fr:Fr} {t:Nat} {v:V} (h:fr.get t=v) (t':Nat):Fr.get ((t,v)::fr.nF [t]) t'=fr.get t':=by
 simp only [Fr.get]
 by_cases ht:t=t'
 · subst ht;rw [if_pos rfl,h]
 · rw [if_neg ht,Fr.gN]
   rw [if_neg]
   simp only [cW,List.mem_singleton]
   exact fun e=>ht e.symm
theorem oZ (fr:Fr) (dst:Option Nat) (v:V) (t:Nat):(fr.next dst v []).get t=if dst=some t then v else fr.get t:=by
 rw [Fr.oZ,if_neg (by simp [cK])]
theorem Du {A:bS} {β:Type} {g:Option (Nat×Bool)} {fr:Fr} {yes no:Fr->T β} {K:β->Prop} (h:(tQ g fr yes no).wp A K):
 ∃ bZ,(∀ t,bZ.get t=fr.get t)/\((dD g fr=some true/\(yes bZ).wp A K)\/(dD g fr=some false/\(no bZ).wp A K)):=by
 unfold tQ at h
 split at h
 · exact ⟨fr,fun _=>rfl,.inl ⟨rfl,h⟩⟩
 · rename_i t want
   split at h
   · rename_i x hx
     split at h
     · cases x with
       |true=>
        have h:=h.1 rfl
        rw [Fr.cN] at h
        exact ⟨_,CC hx,.inl ⟨by simp [dD,hx],h⟩⟩
       |false=>
        have h:=h.2 rfl
        rw [Fr.cN] at h
        exact ⟨_,CC hx,.inr ⟨by simp [dD,hx],h⟩⟩
     · cases x with
       |true=>
        have h:=h.1 rfl
        rw [Fr.cN] at h
        exact ⟨_,CC hx,.inr ⟨by simp [dD,hx],h⟩⟩
       |false=>
        have h:=h.2 rfl
        rw [Fr.cN] at h
        exact ⟨_,CC hx,.inl ⟨by simp [dD,hx],h⟩⟩
   · rename_i cs hx
     exact ⟨fr,fun _=>rfl,.inr ⟨by simp [dD,hx],h⟩⟩
   · exact h.elim
theorem qP {g:Option (Nat×Bool)} {fr bZ:Fr} (h:∀ t∈PV g,fr.get t=bZ.get t):dD g fr=dD g bZ:=by
 unfold dD
 cases g with
 |none=>rfl
 |some q=>
  obtain ⟨t,w⟩:=q
  have ht:fr.get t=bZ.get t:=h t (.head _)
  simp only [ht]
theorem mV {N:Nat} {ops:Array Oper} {E:Env} {fr:Fr} {a:Act} {o:Oper} {g:Option (Nat×Bool)} (hg:lB ops o.guard g=true) (hf:aY E N fr a) {b:Bool} (h:dD g fr=some b):
 Region.wanted o (yielded ops a.tmps)=b:=by
 unfold dD at h
 cases rC:o.guard with
 |none=>
  cases g with
  |none=>simp at h;subst h;simp [Region.wanted,rC]
  |some q=>rw [rC] at hg;simp [lB] at hg
 |some q=>
  obtain ⟨j,w⟩:=q
  cases g with
  |none=>rw [rC] at hg;simp [lB] at hg
  |some q=>
   obtain ⟨t,w'⟩:=q
   rw [rC] at hg
   simp only [lB,Bool.and_eq_true,decide_eq_true_eq] at hg
   obtain ⟨rfl,hg⟩:=hg
   split at hg
   case h_2=>cases hg
   rename_i oj YD
   simp only [decide_eq_true_eq] at hg
   simp only at h
   split at h
   · rename_i x hx
     simp only [Option.some.injEq] at h
     have hy:=FN hf YD hg hx
     subst h
     simp [Region.wanted,rC,hy]
   · rename_i cs hx
     simp only [Option.some.injEq] at h
     have hy:=FO hf YD hg hx
     subst h
     simp [Region.wanted,rC,hy]
   · cases h
def IF (A:bS) (d:bB) (fr:Fr) (st:St):Prop:=
 (dD d.o.guard fr=some true/\∃ v,(step d.o.op fr st).Yields A st v/\∀ n,d.o.dst=some n->fr.get n=v)\/
 (dD d.o.guard fr=some false/\∀ n,d.o.dst=some n->fr.get n=.bY [])
theorem IF.congr {A:bS} {d:bB} {fr bZ:Fr} {st:St} (h:∀ t,t∈d.reads\/d.o.dst=some t->fr.get t=bZ.get t) (hv:IF A d fr st):IF A d bZ st:=by
 have hg:dD d.o.guard fr=dD d.o.guard bZ:=qP fun t ht=>h t (.inl (List.mem_append_left _ ht))
 have hs:step d.o.op fr st=step d.o.op bZ st:=o8 (fun t ht=>h t (.inl (List.mem_append_right _ ht))) st
 rcases hv with ⟨h1,v,h2,h3⟩|⟨h1,h2⟩
 · exact .inl ⟨hg▸h1,v,hs▸h2,fun n hn=>by rw [<-h n (.inr hn)];exact h3 n hn⟩
 · exact .inr ⟨hg▸h1,fun n hn=>by rw [<-h n (.inr hn)];exact h2 n hn⟩
theorem IF.pure {A:bS} {d:bB} {fr:Fr} {st:St} (hp:Dp d.o.op=true) (bU:St) (hv:IF A d fr st):IF A d fr bU:=by
 rcases hv with ⟨h1,v,h2,h3⟩|h
 · refine .inl ⟨h1,v,fun K hK=>NJ hp A fr st bU K (h2 _ hK),h3⟩
 · exact .inr h
theorem mE {A:bS} {β:Type} {re:List Nat} {fr:Fr} {st:St} {k:T β} {K:β->Prop}:∀ {done:List bB},(∀ p∈done,cK p.ix re=true->jN p.o.op=true)->(recheck re done fr st k).wp A K->
 k.wp A K/\∀ p∈done,cK p.ix re=true->dD p.o.guard fr=some true->∃ v,(step p.o.op fr st).Yields A st v/\∀ n,p.o.dst=some n->fr.get n=v
 |[],_,h=>⟨h,fun p hp=>by cases hp⟩
 |p::ps,hq,h=>by
  have YH:∀ q∈ps,cK q.ix re=true->jN q.o.op=true:=fun q hm=>hq q (.tail _ hm)
  simp only [recheck] at h
  split at h
  · rename_i hm
    split at h
    · rename_i hg
      rw [T.wp_bind] at h
      obtain ⟨v,hy,h⟩:=T.eY (Dm (hq p (.head _) hm) fr st) h
      dsimp only at h
      have key:(∀ n,p.o.dst=some n->fr.get n=v)/\(recheck re ps fr st k).wp A K:=by
       split at h
       · rename_i n hn
         exact ⟨fun n' NL=>(by rw [hn] at NL;cases NL;exact h.1),h.2⟩
       · rename_i hn
         exact ⟨fun n' NL=>(by rw [hn] at NL;cases NL),h⟩
      obtain ⟨i1,i2⟩:=mE YH key.2
      refine ⟨i1,fun q PX=>?_⟩
      rcases List.mem_cons.1 PX with rfl|PX
      · exact fun _ _=>⟨v,hy,key.1⟩
      · exact i2 q PX
    · rename_i hg
      obtain ⟨i1,i2⟩:=mE YH h
      refine ⟨i1,fun q PX=>?_⟩
      rcases List.mem_cons.1 PX with rfl|PX
      · intro _ h3;rw [hg] at h3;cases h3
      · exact i2 q PX
    · exact h.elim
  · rename_i hm
    obtain ⟨i1,i2⟩:=mE YH h
    refine ⟨i1,fun q PX=>?_⟩
    rcases List.mem_cons.1 PX with rfl|PX
    · intro h1;rw [hm] at h1;cases h1
    · exact i2 q PX
def Un (listed:Array Bool) (d:bB):Prop:=listed.getD d.ix true=false
structure zP (S:Nat) (E:Env) (st:St) (w:World) (a:Act) (d:bB) (b:Nat):Prop where
 size:S<=b
 ptr:∀ n,d.o.dst=some n->a.tmps.getD n undef=.pointer (some ⟨b,0,none⟩)
 obj:∃ g zero cells t fz,d.o.op=.alloc g zero/\d.o.guard=none/\w.heap[b]? =some (.cells cells t fz)/\sC 1 fz cells.size/\cells.size=zero.length/\(∀ F,eI F zero cells)/\∀ (j:Nat) (x:Value),cells[j]? =some x->x.oneCell'=true
 apart:∀ k,st.live k->(E.μ k).bL≠b
 jL:∀ o,E.I b o=none
theorem zP.step {S:Nat} {E E':Env} {st bU:St} {w w':World} {a a':Act} {d:bB} {b:Nat} (h:zP S E st w a d b) (hx:Ext E st w E' bU w') (ha:∀ n,d.o.dst=some n->a'.tmps.getD n undef=a.tmps.getD n undef):zP S E' bU w' a' d b:=by
 obtain ⟨g,zero,cells,t,fz,h1,h2,h3,h4⟩:=h.obj
 have hb:b<w.heap.size:=(Array.getElem?_eq_some_iff.1 h3).1
 refine ⟨h.size,fun n hn=>by rw [ha n hn];exact h.ptr n hn,⟨g,zero,cells,t,fz,h1,h2,by rw [hx.same b hb h.apart];exact h3,h4⟩,fun k hk=>?_,fun o=>?_⟩
 · by_cases he:E.has k
   · rw [hx.le.loc k he]
     exact h.apart k (hx.gD k hk he)
   · rcases hx.gM k hk he with h5|⟨k0,h5,h6⟩
     · omega
     · rw [<-h6];exact h.apart k0 h5
 · cases hI:E'.I b o with
   |none=>rfl
   |some x=>
    rcases hx.fF b o x hI with h5|h5|⟨k,h5,h6⟩
    · rw [h.jL o] at h5;cases h5
    · omega
    · exact absurd h6 (h.apart k h5)
structure tE (S:Nat) (A:bS) (N:Nat) (K:Fr×St->Prop) (pre suf:List bB) (listed:Array Bool) (E:Env) (st:St) (w:World) (fr:Fr) (a:Act):Prop where
 Ki:b9 E st w
 size:a.tmps.size=N
 rel:∀ t,(∀ d∈pre,Un listed d->d.o.dst≠some t)->(∀ d∈suf,¬Un listed d->d.o.dst≠some t)->Rel E (fr.get t) (a.tmps.getD t undef)
 early:∃ B:Nat->Nat,(∀ d∈suf,¬Un listed d->zP S E st w a d (B d.ix))/\∀ d∈suf,∀ e∈suf,¬Un listed d->¬Un listed e->B d.ix=B e.ix->d.ix=e.ix
 G2:∀ d∈pre,Un listed d->d.j3=false/\IF A d fr st
 run:∃ done,(∀ x,x∈done->x∈pre)/\(∀ x,x∈pre->x∈done)/\(oJ done suf fr st).wp A K
structure sG (ops:Array Oper) (d e:bB):Prop where
 w:∀ n,e.o.dst=some n->(n∉d.reads/\d.o.dst≠some n)\/(e.j3=true/\NK ops e.ix d.ix)
 r:∀ n,d.o.dst=some n->n∈e.reads->NK ops e.ix d.ix
 l:d.j3=true->NK ops e.ix d.ix\/uD e=true
 s:e.j3=true->d.j3=false->NK ops e.ix d.ix\/Dp d.o.op=true\/cK d.ix e.re=true
 q:cK d.ix e.re=true->e.j3=true/\d.j3=false
 f:uD e=true->∀ n,e.o.dst=some n->d.o.dst≠some n
theorem IG {ops:Array Oper} {Mj:List (Nat×Nat)} (ht:Ds ops Mj) {d e:bB} (h:KU Mj d e=true):sG ops d e:=by
 unfold KU at h
 simp only [Bool.and_eq_true,Bool.or_eq_true,Bool.not_eq_true'] at h
 obtain ⟨⟨⟨⟨⟨h1,h2⟩,h3⟩,h4⟩,h5⟩,h6⟩:=h
 have hA:nG d.ix (look Mj e.ix)=true->NK ops e.ix d.ix:=fun hm=>ht _ _ hm
 refine ⟨fun n hn=>?_,fun n hn hm=>?_,fun hl=>?_,fun hl hd=>?_,fun hm=>?_,fun hf n hn hd=>?_⟩
 · rw [hn] at h1
   simp only [Bool.or_eq_true,Bool.and_eq_true,Bool.not_eq_true'] at h1
   rcases h1 with h1|h1
   · refine .inl ⟨fun hm=>?_,fun hd=>?_⟩
     · rw [cW.2 hm] at h1;exact absurd h1.1 (by simp)
     · have:=h1.2
       simp [bB.is,hd] at this
   · exact .inr ⟨h1.1,hA h1.2⟩
 · rw [hn] at h2
   simp only [Bool.or_eq_true,Bool.not_eq_true'] at h2
   rcases h2 with h2|h2
   · rw [cW.2 hm] at h2;cases h2
   · exact hA h2
 · rcases h3 with (h3|h3)|h3
   · rw [hl] at h3;cases h3
   · exact .inl (hA h3)
   · exact .inr h3
 · rcases h4 with (((h4|h4)|h4)|h4)|h4
   · rw [hl] at h4;cases h4
   · rw [hd] at h4;cases h4
   · exact .inl (hA h4)
   · exact .inr (.inl h4)
   · exact .inr (.inr h4)
 · rcases h5 with h5|h5
   · rw [hm] at h5;cases h5
   · exact h5
 · rcases h6 with h6|h6
   · rw [hf] at h6;cases h6
   · rw [hn] at h6
     simp [bB.is,hd] at h6
theorem tE.advance {S:Nat} {P:Program} {ops:Array Oper} {N:Nat} {K:Fr×St->Prop} {pre suf:List bB} {q:bB} {listed:Array Bool} {E:Env} {st:St} {w:World} {fr:Fr} {a:Act}
 (h:tE S (aB P) N K pre (q::suf) listed E st w fr a) (hp:∀ d∈pre,sG ops d q) (hu:Un listed q) (hq:q.j3=false) (hqq:jN q.o.op=true) (II:∀ n,q.o.dst=some n->n∉q.reads):
 ∃ bZ,tE S (aB P) N K (pre++[q]) suf listed E st w bZ a:=by
 obtain ⟨done,EY,Fe,dW⟩:=h.run
 simp only [oJ] at dW
 obtain ⟨AL,IJ,Dv⟩:=Du dW
 -- KF is known of Kr frame behind it
 have main:∀ (v:V),((dD q.o.guard fr=some true/\(step q.o.op fr st).Yields (aB P) st v)\/(dD q.o.guard fr=some false/\v=.bY []))->
  (oJ (q::done) suf (AL.next q.o.dst v []) st).wp (aB P) K->∃ bZ,tE S (aB P) N K (pre++[q]) suf listed E st w bZ a:=by
  intro v hv hr
  have fM:∀ t,(AL.next q.o.dst v []).get t=if q.o.dst=some t then v else fr.get t:=fun t=>by rw [oZ,IJ]
  obtain ⟨B,PY,PZ⟩:=h.early
  refine ⟨AL.next q.o.dst v [],h.Ki,h.size,fun t ht AM=>?_,⟨B,fun d hd=>PY d (.tail _ hd),fun d hd e he=>PZ d (.tail _ hd) e (.tail _ he)⟩,fun d hd P0=>?_,q::done,?_,?_,hr⟩
  · rw [fM]
    have dM:q.o.dst≠some t:=ht q (by simp) hu
    rw [if_neg dM]
    refine h.rel t (fun d hd=>ht d (List.mem_append_left _ hd)) fun d hd CD=>?_
    rcases List.mem_cons.1 hd with rfl|hd
    · exact absurd hu CD
    · exact AM d hd CD
  · rw [List.mem_append,List.mem_singleton] at hd
    rcases hd with hd|rfl
    · obtain ⟨h1,h2⟩:=h.G2 d hd P0
      refine ⟨h1,h2.congr fun t ht=>?_⟩
      rw [fM,if_neg]
      intro VK
      have:=(hp d hd).w t VK
      rcases this with this|this
      · rcases ht with ht|ht
        · exact this.1 ht
        · exact this.2 ht
      · rw [hq] at this;cases this.1
    · refine ⟨hq,?_⟩
      have hg:dD d.o.guard (AL.next d.o.dst v [])=dD d.o.guard fr:=qP fun t ht=>by
       rw [fM,if_neg]
       intro VK
       exact II t VK (List.mem_append_left _ ht)
      have hs:step d.o.op (AL.next d.o.dst v []) st=step d.o.op fr st:=o8 (fun t ht=>by
       rw [fM,if_neg]
       intro VK
       exact II t VK (List.mem_append_right _ ht)) st
      have IK:∀ n,d.o.dst=some n->(AL.next d.o.dst v []).get n=v:=fun n hn=>by rw [fM,if_pos hn]
      rcases hv with ⟨h1,h2⟩|⟨h1,rfl⟩
      · exact .inl ⟨by rw [hg];exact h1,v,by rw [hs];exact h2,IK⟩
      · exact .inr ⟨by rw [hg];exact h1,IK⟩
  · intro x hx
    rcases List.mem_cons.1 hx with rfl|hx
    · simp
    · simp [EY x hx]
  · intro x hx
    rw [List.mem_append,List.mem_singleton] at hx
    rcases hx with hx|rfl
    · exact .tail _ (Fe x hx)
    · exact .head _
 rcases Dv with ⟨hg,hw⟩|⟨hg,hw⟩
 · rw [T.wp_bind] at hw
   have hs:step q.o.op AL st=step q.o.op fr st:=o8 (fun t _=>IJ t) st
   rw [hs] at hw
   obtain ⟨v,hy,hw⟩:=T.eY (Dm hqq fr st) hw
   dsimp only at hw
   rw [Fr.cR] at hw
   have nY:∀ p∈done,cK p.ix q.re=true->jN p.o.op=true:=fun p SY hm=>by
    have:=((hp p (EY p SY)).q hm).1
    rw [hq] at this;cases this
   exact main v (.inl ⟨hg,hy⟩) (mE nY hw).1
 · rw [Fr.cR] at hw
   exact main (.bY []) (.inr ⟨hg,rfl⟩) hw
def uE (listed:Array Bool):List bB->List Nat
 |[]=>[]
 |d::r=>match listed.getD d.ix true,d.o.dst with
  |false,some n=>n::uE listed r
  |_,_=>uE listed r
theorem x9 {listed:Array Bool} {n:Nat}:∀ {l:List bB},n∈uE listed l↔∃ d∈l,Un listed d/\d.o.dst=some n
 |[]=>by simp [uE]
 |d::r=>by
  have ih:=x9 (listed:=listed) (n:=n) (l:=r)
  cases h1:listed.getD d.ix true with
  |true=>
   have hu:¬Un listed d:=by simp only [Un];rw [h1];simp
   simp only [uE,h1,ih]
   constructor
   · rintro ⟨e,he,h⟩;exact ⟨e,.tail _ he,h⟩
   · rintro ⟨e,he,h⟩
     rcases List.mem_cons.1 he with rfl|he
     · exact absurd h.1 hu
     · exact ⟨e,he,h⟩
  |false=>
   have hu:Un listed d:=h1
   cases h2:d.o.dst with
   |none=>
    simp only [uE,h1,h2,ih]
    constructor
    · rintro ⟨e,he,h⟩;exact ⟨e,.tail _ he,h⟩
    · rintro ⟨e,he,h⟩
      rcases List.mem_cons.1 he with rfl|he
      · rw [h2] at h;cases h.2
      · exact ⟨e,he,h⟩
   |some m=>
    simp only [uE,h1,h2,List.mem_cons,ih]
    constructor
    · rintro (rfl|⟨e,he,h⟩)
      · exact ⟨d,.inl rfl,hu,h2⟩
      · exact ⟨e,.inr he,h⟩
    · rintro ⟨e,he|he,h⟩
      · subst he;rw [h2] at h;left;exact (Option.some.inj h.2).symm
      · exact .inr ⟨e,he,h⟩
def uF (listed:Array Bool):List bB->List Nat
 |[]=>[]
 |d::r=>match listed.getD d.ix true,d.o.dst with
  |true,some n=>n::uF listed r
  |_,_=>uF listed r
theorem yA {listed:Array Bool} {n:Nat}:∀ {l:List bB},n∈uF listed l↔∃ d∈l,¬Un listed d/\d.o.dst=some n
 |[]=>by simp [uF]
 |d::r=>by
  have ih:=yA (listed:=listed) (n:=n) (l:=r)
  cases h1:listed.getD d.ix true with
  |false=>
   have hu:Un listed d:=h1
   simp only [uF,h1,ih]
   constructor
   · rintro ⟨e,he,h⟩;exact ⟨e,.tail _ he,h⟩
   · rintro ⟨e,he,h⟩
     rcases List.mem_cons.1 he with rfl|he
     · exact absurd hu h.1
     · exact ⟨e,he,h⟩
  |true=>
   have hu:¬Un listed d:=by simp only [Un];rw [h1];simp
   cases h2:d.o.dst with
   |none=>
    simp only [uF,h1,h2,ih]
    constructor
    · rintro ⟨e,he,h⟩;exact ⟨e,.tail _ he,h⟩
    · rintro ⟨e,he,h⟩
      rcases List.mem_cons.1 he with rfl|he
      · rw [h2] at h;cases h.2
      · exact ⟨e,he,h⟩
   |some m=>
    simp only [uF,h1,h2,List.mem_cons,ih]
    constructor
    · rintro (rfl|⟨e,he,h⟩)
      · exact ⟨d,.inl rfl,hu,h2⟩
      · exact ⟨e,.inr he,h⟩
    · rintro ⟨e,he|he,h⟩
      · subst he;rw [h2] at h;left;exact (Option.some.inj h.2).symm
      · exact .inr ⟨e,he,h⟩
def vU (listed:Array Bool) (pre suf:List bB):List Nat:=uE listed pre++uF listed suf
theorem tE.frame {S:Nat} {A:bS} {N:Nat} {K:Fr×St->Prop} {pre suf:List bB} {listed:Array Bool} {E:Env} {st:St} {w:World} {fr:Fr} {a:Act} (h:tE S A N K pre suf listed E st w fr a):
 aY E N (fr.nF (vU listed pre suf)) a:=by
 refine ⟨h.size,fun t=>?_⟩
 rw [Fr.gN]
 split
 · exact .fK _
 · rename_i hm
   refine h.rel t (fun d hd hu IK=>hm (cW.2 (List.mem_append.2 (.inl (x9.2 ⟨d,hd,hu,IK⟩))))) fun d hd hu IK=>hm (cW.2 (List.mem_append.2 (.inr (yA.2 ⟨d,hd,hu,IK⟩))))
structure P1 (P:Program) (N:Nat) (ops:Array Oper) (d:bB) (o:Oper):Prop where
 at_:ops[d.ix]? =some o
 op:KQ P o.op d.o.op=true
 dst:d.o.dst=o.dst
 lt:∀ n,o.dst=some n->n<N
 gd:lB ops o.guard d.o.guard=true
 quiet:d.j3=false->jN d.o.op=true
 self:∀ n,d.o.dst=some n->n∉d.reads
structure G3 (P:Program) (N:Nat) (ops:Array Oper) (ds:List bB):Prop where
 md:P.follows .mixedOrders=true
 one:∀ d∈ds,∃ o,P1 P N ops d o
 pair:ds.Pairwise (sG ops)
 YI:∀ pre d suf,ds=pre++d::suf->∀ o,ops[d.ix]? =some o->∀ e∈o.after,Region.binds .any e=true->∃ p∈pre,p.ix=e.on
 nodup:(ds.map (·.ix)).Nodup
 all:∀ i,i<ops.size->∃ d∈ds,d.ix=i
theorem yB {ops:Array Oper} {listed:Array Bool} (nC:∀ i o,listed.getD i false=true->ops[i]? =some o->∀ e∈o.after,Region.binds .any e=true->listed.getD e.on false=true)
 {i j:Nat} (h:NK ops i j) (hr:∀ o,ops[i]? =some o->∀ e∈o.after,Region.binds .any e=true->listed.getD e.on false=true):listed.getD j false=true:=by
 induction h with
 |YE ho he hb=>exact hr _ ho _ he hb
 |far ho he hb _ ih=>exact ih fun o' Uo=>nC _ o' (hr _ ho _ he hb) Uo
theorem yC {listed:Array Bool} {d:bB} (h:Un listed d):listed.getD d.ix false=false:=by
 simp only [Un,Array.getD_eq_getD_getElem?] at h ⊢
 cases hq:listed[d.ix]? with
 |none=>rw [hq] at h;simp at h
 |some b=>rw [hq] at h;simpa using h
theorem b9.P2 {E:Env} {st:St} {w:World} (h:b9 E st w) (g:Bool) (L:Loc) (o:Obj) (ho:Holds ((E.push g L fun _ _=>none).at (E.aL g)) w L o) (hap:∀ k,st.live k->(E.μ k).bL≠L.bL) (him:∀ j,E.I L.bL j=none):
 b9 (E.push g L fun _ _=>none) (st.push g o) w:=by
 have hle:E.Le (E.push g L fun _ _=>none):=Env.p7 _ _ _ _
 have fM:∀ k,(st.push g o).get k=if k=E.aL g then some o else st.get k:=fun k=>by rw [St.j4,h.aL]
 have jX:∀ k,(st.push g o).live k->k≠E.aL g->st.live k:=by
  rintro k ⟨x,hx⟩ dM
  rw [fM,if_neg dM] at hx
  exact ⟨x,hx⟩
 have Ka:(E.push g L fun _ _=>none).μ (E.aL g)=L:=Env.fL _ _ _ _
 have hI:∀ b j,(E.push g L fun _ _=>none).I b j=E.I b j:=fun b j=>by
  simp only [Env.push]
  cases E.I b j<;>rfl
 refine ⟨?_,?_,fun k hk=>?_,fun b j x hx=>?_,fun k x hk=>?_,fun k k' hk hZ dM=>?_,fun k hk j X8 Ul=>?_⟩
 · have:=h.ng;cases g<;>simp [St.push,aA.push,Env.push,this]
 · have:=h.nl;cases g<;>simp [St.push,aA.push,Env.push,this]
 · by_cases dM:k=E.aL g
   · subst dM;exact Env.eU _ _ _ _
   · exact hle.has (h.jM k (jX k hk dM))
 · rw [hI] at hx
   exact h.jL b j x hx
 · by_cases dM:k=E.aL g
   · subst dM
     rw [fM,if_pos rfl] at hk
     cases hk
     rw [Ka];exact ho
   · have hl:=jX k ⟨x,hk⟩ dM
     rw [fM,if_neg dM] at hk
     rw [hle.loc k (h.jM k hl)]
     exact (h.obj k x hk).eK (Env.iJ hle k) rfl
 · by_cases h1:k=E.aL g
   · subst h1
     have h2:k'≠E.aL g:=fun e=>dM e.symm
     have hl:=jX k' hZ h2
     rw [Ka,hle.loc k' (h.jM k' hl)]
     exact fun e=>hap k' hl e.symm
   · have hl:=jX k hk h1
     by_cases h2:k'=E.aL g
     · subst h2
       rw [Ka,hle.loc k (h.jM k hl)]
       exact hap k hl
     · have wZ:=jX k' hZ h2
       rw [hle.loc k (h.jM k hl),hle.loc k' (h.jM k' wZ)]
       exact h.sep k k' hl wZ dM
 · rw [hI]
   by_cases h1:k=E.aL g
   · subst h1
     rw [Ka] at*
     exact him j
   · have hl:=jX k hk h1
     rw [hle.loc k (h.jM k hl)] at*
     exact h.own k hl j X8 Ul
theorem Ext.P2 {E0 E:Env} {st0 st:St} {w0 w:World} (hx:Ext E0 st0 w0 E st w) (h:b9 E st w) (g:Bool) (L:Loc) (o:Obj) (hb:w0.heap.size<=L.bL):Ext E0 st0 w0 (E.push g L fun _ _=>none) (st.push g o) w:=by
 have hle:E.Le (E.push g L fun _ _=>none):=Env.p7 _ _ _ _
 have fM:∀ k,(st.push g o).get k=if k=E.aL g then some o else st.get k:=fun k=>by rw [St.j4,h.aL]
 have jX:∀ k,(st.push g o).live k->k≠E.aL g->st.live k:=by
  rintro k ⟨x,hx⟩ dM
  rw [fM,if_neg dM] at hx
  exact ⟨x,hx⟩
 have hI:∀ b j,(E.push g L fun _ _=>none).I b j=E.I b j:=fun b j=>by
  simp only [Env.push]
  cases E.I b j<;>rfl
 refine ⟨hx.le.trans hle,hx.size,fun b j x hj=>?_,fun k hk he=>?_,fun k hk he=>?_,hx.same,hx.os,hx.out,hx.tape⟩
 · rw [hI] at hj
   exact hx.fF b j x hj
 · have dM:k≠E.aL g:=fun e=>E.kX g (e▸hx.le.has he)
   exact hx.gD k (jX k hk dM) he
 · by_cases h1:k=E.aL g
   · subst h1
     rw [Env.fL]
     exact .inl hb
   · have hl:=jX k hk h1
     rw [hle.loc k (h.jM k hl)]
     exact hx.gM k hl he
theorem b9.spare {E:Env} {st:St} {w w':World} (h:b9 E st w) {ob:Go.Obj} (hh:w'.heap=w.heap.push ob) (ho:p9 w w'):b9 E st w'/\Ext E st w E st w':=by
 have hold:∀ b,b<w.heap.size->w'.heap[b]? =w.heap[b]? :=fun b hb=>by rw [hh,Array.getElem?_push,if_neg (by omega)]
 have Nh:∀ b j x,E.I b j=some x->b<w.heap.size:=by
  intro b j x hx
  have:=h.jL b j x hx
  simp only [bI] at this
  rcases Nat.lt_or_ge b w.heap.size with hl|hl
  · exact hl
  · simp [Array.getElem?_eq_none hl] at this
 refine ⟨⟨h.ng,h.nl,h.jM,fun b j x hx=>?_,fun k o hk=>(h.obj k o hk).eK (Env.iJ (.refl E) k) (hold _ (h.lt ⟨o,hk⟩)),h.sep,h.own⟩,
  ⟨.refl E,by rw [hh];simp,fun _ _ _ h=>.inl h,fun _ h _=>h,fun k h _=>.inr ⟨k,h,rfl⟩,fun b hb _=>hold b hb,ho.os,ho.out,ho.tape⟩⟩
 have:=h.jL b j x hx
 simp only [bI,hold b (Nh b j x hx)] at*
 exact this
theorem tE.catch {S:Nat} {P:Program} {ops:Array Oper} {N:Nat} {K:Fr×St->Prop} {pre suf:List bB} {q:bB} {listed:Array Bool} {E:Env} {st:St} {w:World} {fr:Fr} {a:Act}
 (h:tE S (aB P) N K pre (q::suf) listed E st w fr a) (hp:∀ d∈pre,sG ops d q) (UB:∀ e∈suf,e.ix≠q.ix) (UC:∀ d∈pre,d.j3=false->jN d.o.op=true) (hl:q.j3=true) (CD:¬Un listed q)
 (nC:∀ d∈pre,Un listed d->¬NK ops q.ix d.ix):
 ∃ bZ E' bU,tE S (aB P) N K (pre++[q]) suf listed E' bU w bZ a/\∀ (E0:Env) (st0:St) (w0:World),w0.heap.size=S->Ext E0 st0 w0 E st w->Ext E0 st0 w0 E' bU w:=by
 obtain ⟨B,PY,PZ⟩:=h.early
 have hE:=PY q (.head _) CD
 obtain ⟨g,zero,cells,t,fz,GW,hgd,YJ,Kc,kD,YK,iD⟩:=hE.obj
 obtain ⟨done,EY,Fe,dW⟩:=h.run
 simp only [oJ] at dW
 obtain ⟨AL,IJ,Dv⟩:=Du dW
 replace Dv:=Dv.resolve_right fun hc=>by
  have hg:=hc.1
  rw [hgd] at hg
  simp [dD] at hg
 have hw:=Dv.2
 rw [T.wp_bind,GW] at hw
 simp only [step,T.wp] at hw
 rw [Fr.cR] at hw
 have KW:∀ p∈done,cK p.ix q.re=true->jN p.o.op=true:=fun p SY hm=>UC p (EY p SY) ((hp p (EY p SY)).q hm).2
 obtain ⟨Cf,qO⟩:=mE KW hw
 have hL:∀ F:Env,Holds F w ⟨B q.ix,0,cells.size⟩ (.cs zero):=fun F=>⟨rfl,cells,t,fz,YJ,Kc,by simp [kD],Nat.le_refl _,fun j v hj=>by
  obtain ⟨x,hx,hr⟩:=(YK F).get hj
  exact ⟨x,by simpa using hx,hr,iD j x hx⟩⟩
 have s1:=h.Ki.P2 g ⟨B q.ix,0,cells.size⟩ (.cs zero) (hL _) hE.apart hE.jL
 have hle:E.Le (E.push g ⟨B q.ix,0,cells.size⟩ fun _ _=>none):=Env.p7 _ _ _ _
 have fM:∀ t,(AL.next q.o.dst (.p (st.aL g) 0) []).get t=if q.o.dst=some t then .p (st.aL g) 0 else fr.get t:=fun t=>by rw [oZ,IJ]
 have Mk:∀ (e:bB),e∈pre->Un listed e->∀ t,t∈e.reads\/e.o.dst=some t->fr.get t=(AL.next q.o.dst (.p (st.aL g) 0) []).get t:=by
  intro e he KX t ht
  rw [fM,if_neg]
  intro hLt
  rcases (hp e he).w t hLt with this|this
  · rcases ht with ht|ht
    · exact this.1 ht
    · exact this.2 ht
  · exact nC e he KX this.2
 have hI:∀ b j,(E.push g ⟨B q.ix,0,cells.size⟩ fun _ _=>none).I b j=E.I b j:=fun b j=>by
  simp only [Env.push]
  cases E.I b j<;>rfl
 refine ⟨_,_,_,⟨s1,h.size,fun t ht AM=>?_,⟨B,fun d hd hu=>?_,fun d hd e he=>PZ d (.tail _ hd) e (.tail _ he)⟩,fun e he hu=>?_,q::done,?_,?_,Cf⟩,fun E0 st0 w0 hS hx=>hx.P2 h.Ki g _ _ (by rw [hS];exact hE.size)⟩
 · rw [fM]
   by_cases Ml:q.o.dst=some t
   · rw [if_pos Ml,hE.ptr t Ml]
     have:=Rel.p (E:=E.push g ⟨B q.ix,0,cells.size⟩ fun _ _=>none) (st.aL g) 0 (by rw [h.Ki.aL];exact Env.eU _ _ _ _)
     rw [h.Ki.aL,Env.fL] at this
     rw [h.Ki.aL]
     exact this
   · rw [if_neg Ml]
     refine (h.rel t (fun d hd=>ht d (List.mem_append_left _ hd)) fun d hd hu=>?_).mono hle
     rcases List.mem_cons.1 hd with rfl|hd
     · exact Ml
     · exact AM d hd hu
 · have XE:=PY d (.tail _ hd) hu
   refine ⟨XE.size,XE.ptr,XE.obj,fun k hk=>?_,fun o=>by rw [hI];exact XE.jL o⟩
   by_cases h1:k=E.aL g
   · subst h1
     rw [Env.fL]
     intro e
     exact UB d hd (PZ q (.head _) d (.tail _ hd) CD hu e).symm
   · obtain ⟨x,hx⟩:=hk
     rw [St.j4,h.Ki.aL,if_neg h1] at hx
     rw [hle.loc k (h.Ki.jM k ⟨x,hx⟩)]
     exact XE.apart k ⟨x,hx⟩
 · rw [List.mem_append,List.mem_singleton] at he
   rcases he with he|rfl
   · obtain ⟨hv1,hv2⟩:=h.G2 e he hu
     refine ⟨hv1,?_⟩
     have Vr:=hv2.congr (Mk e he hu)
     rcases (hp e he).s hl hv1 with hA|hA|hA
     · exact absurd hA (nC e he hu)
     · exact Vr.pure hA _
     · rcases Vr with ⟨g1,_⟩|g
       · exact .inl ⟨g1,qO e (Fe e he) hA g1⟩
       · exact .inr g
   · exact absurd hu CD
 · intro y hy
   rcases List.mem_cons.1 hy with rfl|hy
   · simp
   · simp [EY y hy]
 · intro y hy
   rw [List.mem_append,List.mem_singleton] at hy
   rcases hy with hy|rfl
   · exact .tail _ (Fe y hy)
   · exact .head _
theorem tE.normal {P:Program} {ops:Array Oper} {N:Nat} {K:Fr×St->Prop} {listed:Array Bool} {E0:Env} {st0:St} {w0 w:World} {a:Act} (G4:listed.size=ops.size) (nC:∀ i o,listed.getD i false=true->ops[i]? =some o->∀ e∈o.after,Region.binds .any e=true->listed.getD e.on false=true):∀ {suf pre:List bB} {fr:Fr} {E:Env} {st:St},
 tE w0.heap.size (aB P) N K pre suf listed E st w fr a->Ext E0 st0 w0 E st w->(pre++suf).Pairwise (sG ops)->((pre++suf).map (·.ix)).Nodup->(∀ d∈pre++suf,∃ o,P1 P N ops d o)->
 ∃ IL G5 bZ E' bU,IL++G5=pre++suf/\tE w0.heap.size (aB P) N K IL G5 listed E' bU w bZ a/\Ext E0 st0 w0 E' bU w/\∀ d r,G5=d::r->d.j3=true/\Un listed d
 |[],pre,fr,E,st,h,hx,_,_,_=>⟨pre,[],fr,E,st,rfl,h,hx,fun d r hd=>by cases hd⟩
 |q::suf,pre,fr,E,st,h,hx,hp,hn,ho=>by
  have e:pre++[q]++suf=pre++q::suf:=by simp
  have hpq:∀ d∈pre,sG ops d q:=fun d hd=>(List.pairwise_append.1 hp).2.2 d hd q (.head _)
  obtain ⟨o,hq⟩:=ho q (by simp)
  by_cases hu:Un listed q
  · cases hl:q.j3 with
    |true=>exact ⟨pre,q::suf,fr,E,st,rfl,h,hx,fun d r hd=>by cases hd;exact ⟨hl,hu⟩⟩
    |false=>
     obtain ⟨bZ,h'⟩:=h.advance hpq hu hl (hq.quiet hl) hq.self
     obtain ⟨IL,G5,UD,E2,st2,e2,h2,h3,h4⟩:=tE.normal G4 nC h' hx (by rw [e];exact hp) (by rw [e];exact hn) (by rw [e];exact ho)
     exact ⟨IL,G5,UD,E2,st2,e2.trans e,h2,h3,h4⟩
  · have hl:q.j3=true:=by
     cases hl:q.j3 with
     |true=>rfl
     |false=>
      obtain ⟨B,PY,_⟩:=h.early
      obtain ⟨g,zero,cells,t,fz,GW,_⟩:=(PY q (.head _) hu).obj
      have:=hq.quiet hl
      rw [GW] at this
      cases this
    have VK:listed.getD q.ix false=true:=by
     have cL:=(Array.getElem?_eq_some_iff.1 hq.at_).1
     rw [<-G4] at cL
     simp only [Un,Array.getD_eq_getD_getElem?,Array.getElem?_eq_getElem cL] at hu ⊢
     simpa using hu
    obtain ⟨bZ,E',bU,h',Se⟩:=h.catch hpq (fun e he lQ=>by
     rw [List.map_append,List.nodup_append] at hn
     have:=hn.2.1
     rw [List.map_cons,List.nodup_cons] at this
     exact this.1 (lQ▸List.mem_map_of_mem he)) (fun d hd YL=>by
     obtain ⟨od,hod⟩:=ho d (List.mem_append_left _ hd)
     exact hod.quiet YL) hl hu (fun d hd Vo hA=>by
     have:=yB nC hA (fun o1 Kt=>nC _ o1 VK Kt)
     rw [yC Vo] at this
     cases this)
    obtain ⟨IL,G5,UD,E2,st2,e2,h2,h3,h4⟩:=tE.normal G4 nC h' (Se E0 st0 w0 rfl hx) (by rw [e];exact hp) (by rw [e];exact hn) (by rw [e];exact ho)
    exact ⟨IL,G5,UD,E2,st2,e2.trans e,h2,h3,h4⟩
section
variable {P:Program} {ops:Array Oper} {N:Nat} {K:Fr×St->Prop} {Q:Exit->Act->World->Prop}
theorem P3 {listed:Array Bool} {d e:bB} (h:Un (listed.setIfInBounds d.ix true) e) (hd:d.ix<listed.size):Un listed e/\e.ix≠d.ix:=by
 simp only [Un,Array.getD_eq_getD_getElem?] at h ⊢
 by_cases hi:d.ix=e.ix
 · rw [hi] at h hd
   simp [hd] at h
 · rw [Array.getElem?_setIfInBounds_ne hi] at h
   exact ⟨h,fun e=>hi e.symm⟩
theorem CE {listed:Array Bool} {d e:bB} (h:Un listed e) (hi:e.ix≠d.ix):Un (listed.setIfInBounds d.ix true) e:=by
 simp only [Un,Array.getD_eq_getD_getElem?] at h ⊢
 rw [Array.getElem?_setIfInBounds_ne (fun e=>hi e.symm)]
 exact h
theorem zQ {a:Act} {dst:Option Nat} {x:Value} {t:Nat} (h:dst≠some t):(a.put dst x).tmps.getD t undef=a.tmps.getD t undef:=by
 cases dst with
 |none=>rfl
 |some d=>
  have:d≠t:=fun e=>h (by rw [e])
  simp only [Act.put,Array.getD_eq_getD_getElem?]
  rw [Array.getElem?_setIfInBounds_ne this]
theorem xH {a:Act} {d:Nat} {x:Value} (h:d<a.tmps.size):(a.put (some d) x).tmps.getD d undef=x:=by
 simp [Act.put,Array.getD_eq_getD_getElem?,h]
theorem Dw (a:Act) (dst:Option Nat) (x:Value):(a.put dst x).tmps.size=a.tmps.size:=by cases dst<;>simp [Act.put]
end
section
variable {P:Program} {ops:Array Oper} {N:Nat} {K:Fr×St->Prop} {Q:Exit->Act->World->Prop}
structure P4 (S:Nat) (P:Program) (N:Nat) (K:Fr×St->Prop) (ds:List bB) (listed:Array Bool) (E:Env) (st:St) (w:World) (a:Act) (a':Act) (w':World):Prop where
 ex:∃ pre suf bZ bU E',pre++suf=ds/\tE S (aB P) N K pre suf listed E' bU w' bZ a'/\Ext E st w E' bU w'/\a'.defers=a.defers
theorem BC {d:bB} (h:uD d=true):∃ g zero,d.o.op=.alloc g zero/\d.o.guard=none/\d.j3=true:=by
 unfold uD at h
 split at h
 · rename_i g zero h1 h2
   exact ⟨g,zero,h1,h2,h⟩
 · cases h
theorem G6 {d:bB} (h:uD d=true):d.reads=[]:=by
 obtain ⟨g,zero,h1,h2,_⟩:=BC h
 unfold bB.reads
 rw [h1,h2]
 rfl
theorem NM {S:Nat} {ds pre suf:List bB} {listed:Array Bool} {E:Env} {st:St} {w:World} {fr:Fr} {a:Act} (hd:G3 P N ops ds) (jY:pre++suf=ds) (h:tE S (aB P) N K pre suf listed E st w fr a)
 (hS:S<=w.heap.size) (xI:∀ d r,suf=d::r->d.j3=true/\Un listed d) (G4:listed.size=ops.size)
 (nC:∀ i o,listed.getD i false=true->ops[i]? =some o->∀ e∈o.after,Region.binds .any e=true->listed.getD e.on false=true)
 {i:Nat} (hr:i∈Region.ready .any ops listed):wpOp P ops Q i (P4 S P N K ds (listed.setIfInBounds i true) E st w a) a w:=by
 obtain ⟨P0,o,ho,P5⟩:=mem_ready.1 hr
 have cL:i<ops.size:=(Array.getElem?_eq_some_iff.1 ho).1
 obtain ⟨d,Fj,rfl⟩:=hd.all i cL
 obtain ⟨o',iD⟩:=hd.one d Fj
 have:o'=o:=by have:=iD.at_;rw [ho] at this;exact (Option.some.inj this).symm
 subst this
 have P6:∀ j,NK ops d.ix j->listed.getD j false=true:=fun j hj=>yB nC hj (fun o1 h1=>by rw [ho] at h1;cases h1;exact P5)
 -- KF it looks at is there
 have YM:d∈pre\/d∈suf:=by rw [<-jY] at Fj;exact List.mem_append.1 Fj
 have UE:=hd.pair
 rw [<-jY] at UE
 have IM:=List.pairwise_append.1 UE
 have P7:∀ e∈ds,¬Un listed e->listed.getD e.ix false=true:=by
  intro e he CD
  obtain ⟨oe,YN⟩:=hd.one e he
  have NN:=(Array.getElem?_eq_some_iff.1 YN.at_).1
  rw [<-G4] at NN
  simp only [Un,Array.getD_eq_getD_getElem?,Array.getElem?_eq_getElem NN] at CD ⊢
  simpa using CD
 -- who was made ahead of its SZ waits for KV SJ is still to ajU
 have G7:∀ e∈suf,¬Un listed e->¬NK ops e.ix d.ix:=by
  intro e he CD hA
  have:=yB nC hA (fun o1 Kt=>nC _ o1 (P7 e (by rw [<-jY];exact List.mem_append_right _ he) CD) Kt)
  rw [yC P0] at this
  cases this
 have VL:∀ n∈d.reads,n∉vU listed pre suf:=by
  intro n hn hm
  rcases List.mem_append.1 hm with hm|hm
  case inr=>
   obtain ⟨e,nR,CD,PN⟩:=yA.1 hm
   have he:e∈ds:=by rw [<-jY];exact List.mem_append_right _ nR
   have hw:sG ops d e->False:=fun hpr=>by
    rcases hpr.w n PN with h1|h1
    · exact h1.1 hn
    · exact G7 e nR CD h1.2
   rcases YM with hp|hp
   · exact hw (IM.2.2 d hp e nR)
   · cases suf with
     |nil=>cases hp
     |cons L r=>
      have hL:=xI L r rfl
      rcases List.mem_cons.1 nR with rfl|E3
      · exact CD hL.2
      rcases List.mem_cons.1 hp with rfl|hp
      · exact hw ((List.pairwise_cons.1 IM.2.1).1 e E3)
      · rcases ((List.pairwise_cons.1 IM.2.1).1 d hp).l hL.1 with hA|hF
        · have h1:=P6 _ hA
          rw [yC hL.2] at h1;cases h1
        · rw [G6 hF] at hn
          cases hn
  obtain ⟨e,YO,KX,PN⟩:=x9.1 hm
  have he:e∈ds:=by rw [<-jY];exact List.mem_append_left _ YO
  by_cases hde:e=d
  · subst hde;exact iD.self n PN hn
  · rcases List.pairwise_iff_getElem.1 hd.pair with UE
    obtain ⟨x,hx,P8⟩:=List.getElem_of_mem he
    obtain ⟨y,hy,P9⟩:=List.getElem_of_mem Fj
    rcases Nat.lt_trichotomy x y with Fk|Fk|Fk
    · have:=UE x y hx hy Fk
      rw [P8,P9] at this
      have h1:=P6 _ (this.r n PN hn)
      rw [yC KX] at h1;cases h1
    · subst Fk;exact hde (P8.symm.trans P9)
    · have:=UE y x hy hx Fk
      rw [P8,P9] at this
      rcases this.w n PN with h1|h1
      · exact h1.1 hn
      · rw [(h.G2 e YO KX).1] at h1;cases h1.1
 have GY:=h.frame
 have j6:∀ t∈d.reads,(fr.nF (vU listed pre suf)).get t=fr.get t:=fun t ht=>by
  rw [Fr.gN,if_neg (fun hm=>VL t ht (cW.1 hm))]
 have hgate:dD d.o.guard (fr.nF (vU listed pre suf))=dD d.o.guard fr:=qP fun t ht=>j6 t (List.mem_append_left _ ht)
 have mW:∀ s,step d.o.op (fr.nF (vU listed pre suf)) s=step d.o.op fr s:=fun s=>o8 (fun t ht=>j6 t (List.mem_append_right _ ht)) s
 have Vo:Un listed d:=P0
 have Qa:∀ e∈ds,e.ix=d.ix->e=d:=by
  intro e he lQ
  obtain ⟨x,hx,P8⟩:=List.getElem_of_mem he
  obtain ⟨y,hy,P9⟩:=List.getElem_of_mem Fj
  have UE:=List.pairwise_iff_getElem.1 (List.pairwise_map.1 hd.nodup)
  rcases Nat.lt_trichotomy x y with Fk|Fk|Fk
  · have:=UE x y hx hy Fk
    rw [P8,P9] at this
    exact absurd lQ this
  · subst Fk
    exact P8.symm.trans P9
  · have:=UE y x hy hx Fk
    rw [P8,P9] at this
    exact absurd lQ.symm this
 have YP:∀ n,d.o.dst=some n->n<a.tmps.size:=fun n hn=>by rw [h.size];exact iD.lt n (iD.dst▸hn)
 -- Kr cF behind it
 have YQ:∀ e,¬Un listed e->¬Un (listed.setIfInBounds d.ix true) e:=fun e he hu=>he (P3 hu (by rw [G4];exact cL)).1
 have gI:∀ {E':Env} {v:V} {x:Value} {bZ:Fr} {pp sf:List bB},(∀ e∈pre,e∈pp)->(∀ e∈suf,¬Un listed e->e∈sf)->E.Le E'->Rel E' v x->(∀ t,bZ.get t=if d.o.dst=some t then v else fr.get t)->
  ∀ t,(∀ e∈pp,Un (listed.setIfInBounds d.ix true) e->e.o.dst≠some t)->(∀ e∈sf,¬Un (listed.setIfInBounds d.ix true) e->e.o.dst≠some t)->Rel E' (bZ.get t) ((a.put o'.dst x).tmps.getD t undef):=by
  intro E' v x bZ pp sf VM VN hle vM fM t ht AM
  rw [fM,<-iD.dst]
  by_cases Ml:d.o.dst=some t
  · rw [if_pos Ml,Ml,xH (YP t Ml)]
    exact vM
  · rw [if_neg Ml,zQ Ml]
    refine (h.rel t (fun e he KX Kg=>?_) fun e he KX=>AM e (VN e he KX) (YQ e KX)).mono hle
    have adG:e∈ds:=by rw [<-jY];exact List.mem_append_left _ he
    by_cases lQ:e.ix=d.ix
    · exact Ml (Qa e adG lQ▸Kg)
    · exact ht e (VM e he) (CE KX lQ) Kg
 have G8:∀ e,Un (listed.setIfInBounds d.ix true) e->Un listed e/\e.ix≠d.ix:=fun e he=>P3 he (by rw [G4];exact cL)
 -- who was made ahead of its SZ stays aoP it is
 have UF:∀ {E':Env} {bU:St} {w':World} {x:Value} {sf:List bB},Ext E st w E' bU w'->(∀ e∈sf,e∈suf/\e.ix≠d.ix)->(∀ e∈suf,¬Un listed e->∀ n,e.o.dst=some n->d.o.dst≠some n)->
  ∃ B:Nat->Nat,(∀ e∈sf,¬Un (listed.setIfInBounds d.ix true) e->zP S E' bU w' (a.put o'.dst x) e (B e.ix))/\∀ e∈sf,∀ e'∈sf,¬Un (listed.setIfInBounds d.ix true) e->¬Un (listed.setIfInBounds d.ix true) e'->B e.ix=B e'.ix->e.ix=e'.ix:=by
  intro E' bU w' x sf hx VN IK
  obtain ⟨B,PY,PZ⟩:=h.early
  have CD:∀ e∈sf,¬Un (listed.setIfInBounds d.ix true) e->¬Un listed e:=fun e he hu PS=>hu (CE PS (VN e he).2)
  refine ⟨B,fun e he hu=>(PY e (VN e he).1 (CD e he hu)).step hx fun n hn=>?_,fun e he e' FB hu hu'=>PZ e (VN e he).1 e' (VN e' FB).1 (CD e he hu) (CD e' FB hu')⟩
  rw [<-iD.dst]
  exact zQ (IK e (VN e he).1 (CD e he hu) n hn)
 rcases YM with hp|hp
 · -- a quiet one,SJ Kr frame ahJ abW
   obtain ⟨hl,hv⟩:=h.G2 d hp Vo
   have build:∀ {E':Env} {w':World} {v:V} {x:Value},b9 E' st w'->Ext E st w E' st w'->Rel E' v x->(∀ n,d.o.dst=some n->fr.get n=v)->P4 S P N K ds (listed.setIfInBounds d.ix true) E st w a (a.put o'.dst x) w':=by
    intro E' w' v x s1 s2 hr hn
    refine ⟨pre,suf,fr,st,E',jY,⟨s1,by rw [Dw];exact h.size,?_,?_,?_,h.run⟩,s2,put_defers _ _ _⟩
    · refine gI (fun e he=>he) (fun e he _=>he) s2.le hr fun t=>?_
      by_cases ht:d.o.dst=some t
      · rw [if_pos ht];exact hn t ht
      · rw [if_neg ht]
    · refine UF s2 (fun e he=>⟨he,fun lQ=>?_⟩) fun e he CD n wP=>?_
      · have Sk:=hd.nodup
        rw [<-jY,List.map_append,List.nodup_append] at Sk
        exact Sk.2.2 _ (List.mem_map_of_mem hp) _ (List.mem_map_of_mem he) lQ.symm
      · rcases (IM.2.2 d hp e he).w n wP with h1|h1
        · exact h1.2
        · exact absurd h1.2 (G7 e he CD)
    · intro e he hu
      exact h.G2 e he (G8 e hu).1
   unfold wpOp
   simp only [ho]
   rcases hv with ⟨h1,v,hy,hn⟩|⟨h1,hn⟩
   · rw [if_pos (mV iD.gd GY (hgate.trans h1))]
     refine .inl (step_ok iD.op h.Ki GY (K:=fun r=>r=(v,st)) (by rw [mW];exact hy _ rfl) ?_)
     intro v' bU E' w' x hk s1 s2 hr
     cases hk
     exact build s1 s2 hr hn
   · rw [if_neg (by rw [mV iD.gd GY (hgate.trans h1)];simp)]
     exact build h.Ki (.refl _ _ _) fJ hn
 · -- Kr next j3 one
   obtain ⟨L,r,VO⟩:∃ L r,suf=L::r:=by
    cases suf with
    |nil=>cases hp
    |cons L r=>exact ⟨L,r,rfl⟩
   subst VO
   have hL:=(xI L r rfl).1
   have hLu:=(xI L r rfl).2
   have Sk:=hd.nodup
   rw [<-jY,List.map_append,List.nodup_append] at Sk
   have YR:=Sk.2.1
   rw [List.map_cons,List.nodup_cons] at YR
   by_cases hLd:L=d
   case neg=>
    -- a new object,made ahead of its SZ
    have hp:d∈r:=by
     rcases List.mem_cons.1 hp with hp|hp
     · exact absurd hp.symm hLd
     · exact hp
    have hF:uD d=true:=by
     rcases ((List.pairwise_cons.1 IM.2.1).1 d hp).l hL with hA|hF
     · have h1:=P6 _ hA
       rw [yC hLu] at h1;cases h1
     · exact hF
    obtain ⟨g,zero,GW,hgd,_⟩:=BC hF
    have dZ:=iD.op
    rw [GW] at dZ
    obtain ⟨ty,hot,hz⟩:∃ ty,o'.op=.alloc ty/\kZ P ty zero=true:=by
     simp only [KQ] at dZ
     split at dZ
     · exact ⟨_,by assumption,dZ⟩
     · cases dZ
    obtain ⟨ti,z,hi,C6,kD,hzr,hl,h1⟩:=jA hz
    have hgw:dD d.o.guard (fr.nF (vU listed pre (L::r)))=some true:=by rw [hgd];rfl
    unfold wpOp
    simp only [ho]
    rw [if_pos (mV iD.gd GY hgw)]
    refine .inl (aT (x:=.pointer (some ⟨w.heap.size,0,none⟩)) (by simp [execOp,hot,Instr.alloc,mO hi C6,newVar,newRow]) (w':=w.alloc (.cells z.cells ty)) ?_)
    obtain ⟨s1,s2⟩:=h.Ki.spare (w':=w.alloc (.cells z.cells ty)) (ob:=.cells z.cells ty) rfl ⟨rfl,rfl,rfl⟩
    obtain ⟨B,PY,PZ⟩:=h.early
    have YS:∀ e∈L::r,¬Un listed e->B e.ix<w.heap.size:=fun e he hu=>by
     obtain ⟨_,_,cells,t,fz,_,_,h3,_⟩:=(PY e he hu).obj
     exact (Array.getElem?_eq_some_iff.1 h3).1
    have IN:∀ e∈L::r,¬Un (listed.setIfInBounds d.ix true) e->e.ix=d.ix\/¬Un listed e:=fun e he hu=>by
     by_cases lQ:e.ix=d.ix
     · exact .inl lQ
     · exact .inr fun PS=>hu (CE PS lQ)
    refine ⟨pre,L::r,fr,st,E,jY,⟨s1,by rw [Dw];exact h.size,fun t ht AM=>?_,⟨fun i=>if i=d.ix then w.heap.size else B i,fun e he hu=>?_,fun e he e' FB hu hu' Kg=>?_⟩,fun e he hu=>h.G2 e he (G8 e hu).1,h.run⟩,s2,put_defers _ _ _⟩
    · have Ml:d.o.dst≠some t:=AM d (.tail _ hp) fun hu=>(G8 d hu).2 rfl
      rw [<-iD.dst,zQ Ml]
      refine h.rel t (fun e he KX Kg=>ht e he (CE KX fun lQ=>?_) Kg) fun e he KX=>AM e he (YQ e KX)
      exact Ml (Qa e (by rw [<-jY];exact List.mem_append_left _ he) lQ▸Kg)
    · by_cases lQ:e.ix=d.ix
      · have PN:=Qa e (by rw [<-jY];exact List.mem_append_right _ he) lQ
        subst PN
        dsimp only
        rw [if_pos rfl]
        refine ⟨hS,fun n hn=>?_,⟨g,zero,z.cells,ty,(0,0),GW,hgd,(by show (w.heap.push _)[w.heap.size]? =_;simp),.inl rfl,by omega,hzr,h1⟩,fun k hk=>?_,fun ob=>?_⟩
        · rw [<-iD.dst,hn,xH (YP n hn)]
        · have:=h.Ki.lt hk
          omega
        · cases hI:E.I w.heap.size ob with
          |none=>rfl
          |some x=>
           have:=h.Ki.jL _ _ _ hI
           simp [bI] at this
      · have PS:=(IN e he hu).resolve_left lQ
        dsimp only
        rw [if_neg lQ]
        refine (PY e he PS).step s2 fun n hn=>?_
        rw [<-iD.dst]
        refine zQ fun YA=>?_
        have dM:e≠d:=fun e2=>lQ (by rw [e2])
        rcases List.mem_cons.1 he with rfl|E3
        · exact PS hLu
        · have YT:=List.pairwise_iff_getElem.1 (List.pairwise_cons.1 IM.2.1).2
          obtain ⟨x,hx,P8⟩:=List.getElem_of_mem E3
          obtain ⟨y,hy,P9⟩:=List.getElem_of_mem hp
          rcases Nat.lt_trichotomy x y with Fk|Fk|Fk
          · have:=YT x y hx hy Fk
            rw [P8,P9] at this
            exact this.f hF n YA hn
          · subst Fk
            exact dM (P8.symm.trans P9)
          · have:=YT y x hy hx Fk
            rw [P8,P9] at this
            rcases this.w n hn with h2|h2
            · exact h2.2 YA
            · exact G7 e (.tail _ E3) PS h2.2
    · dsimp only at Kg
      by_cases h1:e.ix=d.ix
      · by_cases h2:e'.ix=d.ix
        · rw [h1,h2]
        · rw [if_pos h1,if_neg h2] at Kg
          have:=YS e' FB ((IN e' FB hu').resolve_left h2)
          omega
      · by_cases h2:e'.ix=d.ix
        · rw [if_neg h1,if_pos h2] at Kg
          have:=YS e he ((IN e he hu).resolve_left h1)
          omega
        · rw [if_neg h1,if_neg h2] at Kg
          exact PZ e he e' FB ((IN e he hu).resolve_left h1) ((IN e' FB hu').resolve_left h2) Kg
   subst hLd
   have Qb:∀ e∈pre,sG ops e L:=fun e he=>IM.2.2 e he L (.head _)
   obtain ⟨done,EY,Fe,dW⟩:=h.run
   simp only [oJ] at dW
   obtain ⟨AL,IJ,Dv⟩:=Du dW
   have build:∀ {E':Env} {bU:St} {w':World} {v:V} {x:Value},b9 E' bU w'->Ext E st w E' bU w'->Rel E' v x->(∀ e∈pre,Un listed e->IF (aB P) e (AL.next L.o.dst v []) bU)->
    (oJ (L::done) r (AL.next L.o.dst v []) bU).wp (aB P) K->P4 S P N K ds (listed.setIfInBounds L.ix true) E st w a (a.put o'.dst x) w':=by
    intro E' bU w' v x s1 s2 hr hv hw
    have adH:pre++[L]++r=ds:=by rw [<-jY];simp
    have fM:∀ t,(AL.next L.o.dst v []).get t=if L.o.dst=some t then v else fr.get t:=fun t=>by rw [oZ,IJ]
    refine ⟨pre++[L],r,AL.next L.o.dst v [],bU,E',adH,⟨s1,by rw [Dw];exact h.size,?_,?_,?_,L::done,?_,?_,hw⟩,s2,put_defers _ _ _⟩
    · refine gI (fun e he=>List.mem_append_left _ he) (fun e he hu=>?_) s2.le hr fM
      rcases List.mem_cons.1 he with rfl|he
      · exact absurd hLu hu
      · exact he
    · refine UF s2 (fun e he=>⟨.tail _ he,fun lQ=>YR.1 (lQ▸List.mem_map_of_mem he)⟩) fun e he CD n wP=>?_
      rcases List.mem_cons.1 he with rfl|he
      · exact absurd hLu CD
      · rcases ((List.pairwise_cons.1 IM.2.1).1 e he).w n wP with h1|h1
        · exact h1.2
        · exact absurd h1.2 (G7 e (.tail _ he) CD)
    · intro e he hu
      obtain ⟨hu1,PS⟩:=G8 e hu
      rw [List.mem_append,List.mem_singleton] at he
      rcases he with he|rfl
      · exact ⟨(h.G2 e he hu1).1,hv e he hu1⟩
      · exact absurd rfl PS
    · intro y hy
      rcases List.mem_cons.1 hy with rfl|hy
      · simp
      · simp [EY y hy]
    · intro y hy
      rw [List.mem_append,List.mem_singleton] at hy
      rcases hy with hy|rfl
      · exact .tail _ (Fe y hy)
      · exact .head _
   -- KF is known of Kr frame holds on behind it
   have Mk:∀ (v:V) (e:bB),e∈pre->Un listed e->∀ t,t∈e.reads\/e.o.dst=some t->fr.get t=(AL.next L.o.dst v []).get t:=by
    intro v e he KX t ht
    rw [oZ,IJ,if_neg]
    intro hLt
    rcases (Qb e he).w t hLt with this|this
    · rcases ht with ht|ht
      · exact this.1 ht
      · exact this.2 ht
    · have h1:=P6 _ this.2
      rw [yC KX] at h1;cases h1
   unfold wpOp
   simp only [ho]
   rcases Dv with ⟨hg,hw⟩|⟨hg,hw⟩
   · rw [if_pos (mV iD.gd GY (hgate.trans hg))]
     rw [T.wp_bind] at hw
     have xJ:step L.o.op AL st=step L.o.op fr st:=o8 (fun t _=>IJ t) st
     rw [xJ,<-mW] at hw
     refine .inl (step_ok iD.op h.Ki GY hw ?_)
     intro v bU E' w' x hk s1 s2 hr
     dsimp only at hk
     rw [Fr.cR] at hk
     have KW:∀ p∈done,cK p.ix L.re=true->jN p.o.op=true:=fun p SY hm=>by
      have VM:=EY p SY
      obtain ⟨op,GW⟩:=hd.one p (by rw [<-jY];exact List.mem_append_left _ VM)
      exact GW.quiet ((Qb p VM).q hm).2
     obtain ⟨Cf,qO⟩:=mE KW hk
     refine build s1 s2 hr (fun e he hu=>?_) Cf
     obtain ⟨hl,hv⟩:=h.G2 e he hu
     have Vr:=hv.congr (Mk v e he hu)
     rcases (Qb e he).s hL hl with hA|hA|hA
     · have h1:=P6 _ hA
       rw [yC hu] at h1;cases h1
     · exact Vr.pure hA bU
     · rcases Vr with ⟨g1,_⟩|g
       · exact .inl ⟨g1,qO e (Fe e he) hA g1⟩
       · exact .inr g
   · rw [if_neg (by rw [mV iD.gd GY (hgate.trans hg)];simp)]
     rw [Fr.cR] at hw
     exact build h.Ki (.refl _ _ _) fJ (fun e he hu=>(h.G2 e he hu).2.congr (Mk _ e he hu)) hw
end
section
variable {P:Program} {ops:Array Oper} {N:Nat} {K:Fr×St->Prop} {Q:Exit->Act->World->Prop}
def gT (listed:Array Bool):List bB->Nat
 |[]=>0
 |d::r=>(match listed.getD d.ix true with|false=>1|true=>0)+gT listed r
theorem zR {listed:Array Bool}:∀ {l:List bB},gT listed l=0->∀ d∈l,¬Un listed d
 |[],_,d,hd=>by cases hd
 |e::r,h,d,hd=>by
  simp only [gT] at h
  have h1:(match listed.getD e.ix true with|false=>1|true=>0)=0:=by omega
  rcases List.mem_cons.1 hd with rfl|hd
  · intro hu
    simp only [Un] at hu
    rw [hu] at h1;simp at h1
  · exact zR (by omega) d hd
end
section
variable {P:Program} {ops:Array Oper} {N:Nat} {K:Fr×St->Prop} {Q:Exit->Act->World->Prop}
theorem xK {listed:Array Bool} {i:Nat}:∀ {l:List bB},(∀ d∈l,d.ix≠i)->gT (listed.setIfInBounds i true) l=gT listed l
 |[],_=>rfl
 |d::r,h=>by
  have hd:(listed.setIfInBounds i true).getD d.ix true=listed.getD d.ix true:=by
   simp only [Array.getD_eq_getD_getElem?]
   rw [Array.getElem?_setIfInBounds_ne (fun e=>h d (.head _) e.symm)]
  simp only [gT,hd,xK (fun e he=>h e (.tail _ he))]
theorem BD {listed:Array Bool} {d:bB} (cL:d.ix<listed.size) (hu:Un listed d):∀ {l:List bB},(l.map (·.ix)).Nodup->d∈l->gT (listed.setIfInBounds d.ix true) l+1=gT listed l
 |[],_,h=>by cases h
 |e::r,hn,h=>by
  rw [List.map_cons,List.nodup_cons] at hn
  rcases List.mem_cons.1 h with rfl|h
  · have hs:(listed.setIfInBounds d.ix true).getD d.ix true=true:=by simp [Array.getD_eq_getD_getElem?,cL]
    have ho:gT (listed.setIfInBounds d.ix true) r=gT listed r:=xK fun e he lQ=>hn.1 (lQ▸List.mem_map_of_mem he)
    simp only [Un] at hu
    simp only [gT,hs,hu,ho]
    omega
  · have dM:e.ix≠d.ix:=fun lQ=>hn.1 (lQ▸List.mem_map_of_mem h)
    have he:(listed.setIfInBounds d.ix true).getD e.ix true=listed.getD e.ix true:=by
     simp only [Array.getD_eq_getD_getElem?]
     rw [Array.getElem?_setIfInBounds_ne (fun q=>dM q.symm)]
    have ih:=BD cL hu hn.2 h
    simp only [gT,he]
    omega
theorem BE {ds:List bB} (hd:G3 P N ops ds) {listed:Array Bool} (G4:listed.size=ops.size) (hr:Region.ready .any ops listed=[]):∀ (pre suf:List bB),ds=pre++suf->(∀ d∈pre,¬Un listed d)->∀ d∈ds,¬Un listed d
 |pre,[],h,hp=>fun d Fj=>hp d (by rw [h] at Fj;simpa using Fj)
 |pre,d::suf,h,hp=>by
  refine BE hd G4 hr (pre++[d]) suf (by rw [h];simp) fun e he=>?_
  rw [List.mem_append,List.mem_singleton] at he
  rcases he with he|rfl
  · exact hp e he
  · intro hu
    obtain ⟨o,ho⟩:=hd.one e (by rw [h];simp)
    have:e.ix∈Region.ready .any ops listed:=mem_ready.2 ⟨hu,o,ho.at_,fun ed PN hb=>by
     obtain ⟨p,hpm,hpi⟩:=hd.YI pre e suf h o ho.at_ ed PN hb
     have:=hp p hpm
     rw [<-hpi]
     simp only [Un,Array.getD_eq_getD_getElem?] at this ⊢
     cases hq:listed[p.ix]? with
     |none=>
      obtain ⟨op,GW⟩:=hd.one p (by rw [h];exact List.mem_append_left _ hpm)
      have h1:=(Array.getElem?_eq_some_iff.1 GW.at_).1
      have h2:=Array.getElem?_eq_none_iff.1 hq
      omega
     |some b=>rw [hq] at this;simp at this ⊢;exact this⟩
    rw [hr] at this;cases this
end
section
variable {P:Program} {ops:Array Oper} {N:Nat} {K:Fr×St->Prop} {Q:Exit->Act->World->Prop}
theorem Qc {ds:List bB} (hd:G3 P N ops ds) {E0:Env} {st0:St} {w0:World} {a0:Act}
 (hQ:∀ fr st E a w,K (fr,st)->b9 E st w->Ext E0 st0 w0 E st w->aY E N fr a->a.defers=a0.defers->Q .normal a w):
 ∀ (fuel:Nat) {pre suf:List bB} {listed:Array Bool} {E:Env} {st:St} {w:World} {fr:Fr} {a:Act},pre++suf=ds->tE w0.heap.size (aB P) N K pre suf listed E st w fr a->Ext E0 st0 w0 E st w->a.defers=a0.defers->listed.size=ops.size->
  (∀ i o,listed.getD i false=true->ops[i]? =some o->∀ e∈o.after,Region.binds .any e=true->listed.getD e.on false=true)->gT listed ds<=fuel->wpAny P .any ops Q fuel listed a w:=by
 have fin:∀ {pre suf:List bB} {listed:Array Bool} {E:Env} {st:St} {w:World} {fr:Fr} {a:Act},pre++suf=ds->tE w0.heap.size (aB P) N K pre suf listed E st w fr a->Ext E0 st0 w0 E st w->a.defers=a0.defers->listed.size=ops.size->(∀ d r,suf=d::r->d.j3=true/\Un listed d)->
  Region.ready .any ops listed=[]->Q .normal a w:=by
  intro pre suf listed E st w fr a jY h he XF G4 xI hr
  have eV:=BE hd G4 hr [] ds rfl (fun d hd=>by cases hd)
  have VO:suf=[]:=by
   cases suf with
   |nil=>rfl
   |cons d r=>exact absurd (xI d r rfl).2 (eV d (by rw [<-jY];simp))
  subst VO
  obtain ⟨done,_,_,dW⟩:=h.run
  refine hQ fr st E a w dW h.Ki he ⟨h.size,fun t=>h.rel t (fun d Fj hu=>?_) fun d Fj=>by cases Fj⟩ XF
  exact absurd hu (eV d (by rw [<-jY];exact List.mem_append_left _ Fj))
 intro fuel
 induction fuel with
 |zero=>
  intro pre suf listed E st w fr a jY h he XF G4 nC hc
  have Iu:=zR (listed:=listed) (l:=ds) (by omega)
  have hr:Region.ready .any ops listed=[]:=by
   rw [List.eq_nil_iff_forall_not_mem]
   intro i hi
   obtain ⟨P0,o,ho,_⟩:=mem_ready.1 hi
   obtain ⟨d,Fj,rfl⟩:=hd.all i (Array.getElem?_eq_some_iff.1 ho).1
   exact Iu d Fj P0
  obtain ⟨IL,G5,bZ,E',bU,qZ,h',FB,xI⟩:=h.normal (ops:=ops) G4 nC he (by rw [jY];exact hd.pair) (by rw [jY];exact hd.nodup) (by rw [jY];exact hd.one)
  exact ⟨hr,fin (qZ.trans jY) h' FB XF G4 xI hr⟩
 |succ fuel ih=>
  intro pre suf listed E st w fr a jY h he XF G4 nC hc
  obtain ⟨IL,G5,bZ,E',bU,qZ,h',FB,xI⟩:=h.normal (ops:=ops) G4 nC he (by rw [jY];exact hd.pair) (by rw [jY];exact hd.nodup) (by rw [jY];exact hd.one)
  rw [jY] at qZ
  refine ⟨fun hr=>fin qZ h' FB XF G4 xI hr,fun i hi=>?_⟩
  refine wpOp_mono ?_ (NM hd qZ h' FB.size xI G4 nC hi)
  rintro a1 w1 ⟨p1,s1,f1,st1,E1,adK,hi1,YU,adL⟩
  obtain ⟨P0,o,ho,P5⟩:=mem_ready.1 hi
  have adM:=(Array.getElem?_eq_some_iff.1 ho).1
  obtain ⟨d,Fj,rfl⟩:=hd.all i adM
  refine ih adK hi1 (FB.trans YU) (adL.trans XF) (by simpa using G4) ?_ ?_
  · intro j o' hj Uo e Kg hb
    have key:listed.getD e.on false=true:=by
     by_cases xF:j=d.ix
     · subst xF
       rw [ho] at Uo;cases Uo
       exact P5 e Kg hb
     · refine nC j o' ?_ Uo e Kg hb
       simp only [Array.getD_eq_getD_getElem?] at hj ⊢
       rw [Array.getElem?_setIfInBounds_ne (fun q=>xF q.symm)] at hj
       exact hj
    exact getD_set_true key
  · have:=BD (listed:=listed) (d:=d) (by omega) P0 hd.nodup Fj
    omega
end
section
variable {P:Program} {ops:Array Oper} {N:Nat} {K:Fr×St->Prop} {Q:Exit->Act->World->Prop}
theorem zS {Mj:List (Nat×Nat)} (ht:Ds ops Mj):∀ {ds:List bB},CA Mj ds=true->ds.Pairwise (sG ops)
 |[],_=>.nil
 |d::r,h=>by
  simp only [CA,Bool.and_eq_true,List.all_eq_true] at h
  exact .cons (fun e he=>IG ht (h.1 e he)) (zS ht h.2)
theorem zT:∀ {ds:List bB} {seen:List Nat},CB ops seen ds=true->
 (∀ pre d suf,ds=pre++d::suf->∀ o,ops[d.ix]? =some o->∀ e∈o.after,Region.binds .any e=true->e.on∈seen\/∃ p∈pre,p.ix=e.on)/\(ds.map (·.ix)).Nodup/\∀ d∈ds,d.ix∉seen
 |[],seen,_=>⟨fun pre d suf h=>by simp at h,by simp,fun d hd=>by cases hd⟩
 |q::r,seen,h=>by
  simp only [CB,Bool.and_eq_true,Bool.not_eq_true'] at h
  obtain ⟨⟨h1,h2⟩,h3⟩:=h
  obtain ⟨i1,i2,i3⟩:=zT h3
  have hq:q.ix∉seen:=fun hm=>by rw [cW.2 hm] at h2;cases h2
  refine ⟨fun pre d suf jY o ho e he hb=>?_,?_,?_⟩
  · cases pre with
    |nil=>
     simp only [List.nil_append,List.cons.injEq] at jY
     obtain ⟨rfl,rfl⟩:=jY
     rw [ho] at h1
     simp only [List.all_eq_true] at h1
     left
     refine cW.1 (h1 e.on ?_)
     simp only [Cz,List.mem_map,List.mem_filter]
     exact ⟨e,⟨by simpa using he,hb⟩,rfl⟩
    |cons p pre=>
     simp only [List.cons_append,List.cons.injEq] at jY
     obtain ⟨rfl,rfl⟩:=jY
     rcases i1 pre d suf rfl o ho e he hb with hm|⟨p,hp,hpi⟩
     · rcases List.mem_cons.1 hm with hm|hm
       · exact .inr ⟨q,.head _,hm.symm⟩
       · exact .inl hm
     · exact .inr ⟨p,.tail _ hp,hpi⟩
  · rw [List.map_cons,List.nodup_cons]
    refine ⟨fun hm=>?_,i2⟩
    obtain ⟨d,hd,hdi⟩:=List.mem_map.1 hm
    exact i3 d hd (by rw [hdi];exact .head _)
  · intro d hd
    rcases List.mem_cons.1 hd with rfl|hd
    · exact hq
    · exact fun hm=>i3 d hd (.tail _ hm)
end
end Go.Eng
