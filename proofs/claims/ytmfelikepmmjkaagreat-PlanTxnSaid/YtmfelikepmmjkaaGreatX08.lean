/-
Regions whose order is drawn: one order serves for all.
-/
import Derived.Test.YtmfelikepmmjkaaGreatX07
import Derived.Orders
set_option linter.unusedVariables false
set_option linter.unusedSimpArgs false
namespace Go.Eng
open Go
inductive Ph (ops:Array Oper):Nat->Nat->Prop
 |aa4 {i:Nat} {o:Oper} {e:Edge} (ho:ops[i]? =some o) (he:e∈o.after) (hb:Region.binds .any e=true):Ph ops i e.on
 |far {i j:Nat} {o:Oper} {e:Edge} (ho:ops[i]? =some o) (he:e∈o.after) (hb:Region.binds .any e=true) (h:Ph ops e.on j):Ph ops i j
def look:List (Nat×Nat)->Nat->Nat
 |[],_=>0
 |(k,l)::r,n=>match Nat.beq k n with
  |true=>l
  |false=>look r n
def Dz (o:Oper):List Nat:=(o.after.toList.filter (Region.binds .any)).map (·.on)
def oZ (j m:Nat):Bool:=Nat.testBit m j
def Et (Eu:List (Nat×Nat)):List Nat->Nat->Nat
 |[],m=>m
 |j::r,m=>Et Eu r (Nat.lor m (Nat.lor (Nat.shiftLeft 1 j) (look Eu j)))
theorem CE (Eu:List (Nat×Nat)) (j:Nat):∀ (l:List Nat) (m:Nat),oZ j (Et Eu l m)=true->oZ j m=true\/∃ k,k∈l/\(j=k\/oZ j (look Eu k)=true)
 |[],m,h=>.inl h
 |k::r,m,h=>by
  rcases CE Eu j r _ h with h|⟨q,hq,h⟩
  · simp only [oZ] at h ⊢
    have h:(m|||((1<<<k)|||look Eu k)).testBit j=true:=h
    rw [Nat.testBit_or,Nat.testBit_or] at h
    simp only [Bool.or_eq_true] at h
    rcases h with h|h|h
    · exact .inl h
    · refine .inr ⟨k,by simp,.inl ?_⟩
      rw [Nat.testBit_shiftLeft] at h
      simp only [ge_iff_le,Bool.and_eq_true,decide_eq_true_eq] at h
      have:=Nat.testBit_one_eq_true_iff_self_eq_zero.1 h.2
      omega
    · exact .inr ⟨k,by simp,.inr h⟩
  · exact .inr ⟨q,by simp [hq],h⟩
def Ig (ops:Array Oper) (Eu:List (Nat×Nat)) (i:Nat):List (Nat×Nat):=
 match ops[i]? with
 |some o=>(i,Et Eu (Dz o) 0)::Eu
 |none=>Eu
def Mk (ops:Array Oper):List Nat->List (Nat×Nat)->List (Nat×Nat)
 |[],Eu=>Eu
 |i::r,Eu=>Mk ops r (Ig ops Eu i)
def Ev (ops:Array Oper) (Eu:List (Nat×Nat)):Prop:=∀ i j,oZ j (look Eu i)=true->Ph ops i j
theorem ancStep_ok {ops:Array Oper} {Eu:List (Nat×Nat)} (h:Ev ops Eu) (i:Nat):Ev ops (Ig ops Eu i):=by
 unfold Ig
 split
 · rename_i o ho
   intro i' j hj
   simp only [look] at hj
   split at hj
   · rename_i hb
     have:=Nat.eq_of_beq_eq_true hb
     subst this
     rcases CE _ _ _ _ hj with hj|⟨k,hk,hj⟩
     · simp [oZ] at hj
     simp only [Dz,List.mem_map,List.mem_filter] at hk
     obtain ⟨e,⟨he,hb⟩,rfl⟩:=hk
     have he:e∈o.after:=by simpa using he
     rcases hj with rfl|hj
     · exact .aa4 ho he hb
     · exact .far ho he hb (h _ _ hj)
   · exact h i' j hj
 · exact h
theorem ancTab_ok {ops:Array Oper}:∀ (l:List Nat) {Eu:List (Nat×Nat)},Ev ops Eu->Ev ops (Mk ops l Eu)
 |[],_,h=>h
 |i::r,_,h=>ancTab_ok r (ancStep_ok h i)
def NJ (ops:Array Oper) (l:List Nat):List (Nat×Nat):=Mk ops l []
theorem allAncs_ok (ops:Array Oper) (l:List Nat):Ev ops (NJ ops l):=ancTab_ok l (fun i j h=>by simp [look,oZ] at h)
def RB (g:Option (Nat×Bool)):List Nat:=
 match g with
 |some (t,_)=>[t]
 |none=>[]
def bH.reads (d:bH):List Nat:=RB d.o.guard++d.o.op.cL
def bH.is (d:bH) (t:Nat):Bool:=
 match d.o.dst with
 |some n=>Nat.beq n t
 |none=>false
def vZ (d:bH):Bool:=
 match d.o.op,d.o.guard with
 |.alloc _ _,none=>d.kX
 |_,_=>false
def Ml (NK:List (Nat×Nat)) (d e:bH):Bool:=
 -- Mm writes L9 an afF one looks at,or wrote
 (match e.o.dst with
 |some n=>(!cN n d.reads&&!d.is n)||(e.kX&&oZ d.ix (look NK e.ix))
 |none=>true)&&
 -- L9 one looks at of LQ aa5 own comes from an aa6
 (match d.o.dst with
 |some n=>!cN n e.reads||oZ d.ix (look NK e.ix)
 |none=>true)&&
 -- behind a kX one all are NL Wp,but for new objects
 (!d.kX||oZ d.ix (look NK e.ix)||vZ e)&&
 -- a kX one:L9 was before it,and it anR not wait for,is pure or looked at again
 (!e.kX||d.kX||oZ d.ix (look NK e.ix)||Es d.o.op||cN d.ix e.re)&&
 (!cN d.ix e.re||(e.kX&&!d.kX))&&
 -- a new object UN Mm waits to make:Mm ag0 slot
 (!vZ e||match e.o.dst with
 |some n=>!d.is n
 |none=>true)
def DA (NK:List (Nat×Nat)):List bH->Bool
 |[]=>true
 |d::r=>r.all (Ml NK d)&&DA NK r
def RD (P:Program) (N:Nat) (ops:Array Oper) (d:bH):Bool:=
 match ops[d.ix]? with
 |some o=>Mh P o.op d.o.op&&decide (d.o.dst=o.dst)&&JV N o.dst&&mE ops o.guard d.o.guard&&(d.kX||j8 d.o.op)&&
   (match d.o.dst with
   |some n=>!cN n d.reads
   |none=>true)
 |none=>false
def DB (ops:Array Oper):List Nat->List bH->Bool
 |_,[]=>true
 |seen,d::r=>(match ops[d.ix]? with
  |some o=>(Dz o).all fun j=>cN j seen
  |none=>false)&&!cN d.ix seen&&DB ops (d.ix::seen) r
def Ew (P:Program) (N:Nat) (ops:Array Oper) (ds:List bH):Bool:=
 P.follows .mixedOrders&&decide (ds.length=ops.size)&&ds.all (RD P N ops)&&DA (NJ ops (ds.map (·.ix))) ds&&DB ops [] ds
theorem DC {fr:Fr} {t:Nat} {v:V} (h:fr.get t=v) (t':Nat):Fr.get ((t,v)::fr.oY [t]) t'=fr.get t':=by
 simp only [Fr.get]
 by_cases ht:t=t'
 · subst ht;rw [if_pos rfl,h]
 · rw [if_neg ht,Fr.iC]
   rw [if_neg]
   simp only [dC,List.mem_singleton]
   exact fun e=>ht e.symm
theorem qE (fr:Fr) (dst:Option Nat) (v:V) (t:Nat):(fr.next dst v []).get t=if dst=some t then v else fr.get t:=by
 rw [Fr.qE,if_neg (by simp [cN])]
theorem Ey {A:b7} {β:Type} {g:Option (Nat×Bool)} {fr:Fr} {yes no:Fr->T β} {K:β->Prop} (h:(vN g fr yes no).wp A K):
 ∃ cF,(∀ t,cF.get t=fr.get t)/\((dM g fr=some true/\(yes cF).wp A K)\/(dM g fr=some false/\(no cF).wp A K)):=by
 unfold vN at h
 split at h
 · exact ⟨fr,fun _=>rfl,.inl ⟨rfl,h⟩⟩
 · rename_i t want
   split at h
   · rename_i x hx
     split at h
     · cases x with
       |true=>
        have h:=h.1 rfl
        rw [Fr.cU] at h
        exact ⟨_,DC hx,.inl ⟨by simp [dM,hx],h⟩⟩
       |false=>
        have h:=h.2 rfl
        rw [Fr.cU] at h
        exact ⟨_,DC hx,.inr ⟨by simp [dM,hx],h⟩⟩
     · cases x with
       |true=>
        have h:=h.1 rfl
        rw [Fr.cU] at h
        exact ⟨_,DC hx,.inr ⟨by simp [dM,hx],h⟩⟩
       |false=>
        have h:=h.2 rfl
        rw [Fr.cU] at h
        exact ⟨_,DC hx,.inl ⟨by simp [dM,hx],h⟩⟩
   · rename_i cs hx
     exact ⟨fr,fun _=>rfl,.inr ⟨by simp [dM,hx],h⟩⟩
   · exact h.elim
theorem sH {g:Option (Nat×Bool)} {fr cF:Fr} (h:∀ t∈RB g,fr.get t=cF.get t):dM g fr=dM g cF:=by
 unfold dM
 cases g with
 |none=>rfl
 |some q=>
  obtain ⟨t,w⟩:=q
  have ht:fr.get t=cF.get t:=h t (.head _)
  simp only [ht]
theorem nZ {N:Nat} {ops:Array Oper} {E:Env} {fr:Fr} {a:Act} {o:Oper} {g:Option (Nat×Bool)} (hg:mE ops o.guard g=true) (hf:bB E N fr a) {b:Bool} (h:dM g fr=some b):
 Region.wanted o (yielded ops a.tmps)=b:=by
 unfold dM at h
 cases pK:o.guard with
 |none=>
  cases g with
  |none=>simp at h;subst h;simp [Region.wanted,pK]
  |some q=>rw [pK] at hg;simp [mE] at hg
 |some q=>
  obtain ⟨j,w⟩:=q
  cases g with
  |none=>rw [pK] at hg;simp [mE] at hg
  |some q=>
   obtain ⟨t,w'⟩:=q
   rw [pK] at hg
   simp only [mE,Bool.and_eq_true,decide_eq_true_eq] at hg
   obtain ⟨rfl,hg⟩:=hg
   split at hg
   case h_2=>cases hg
   rename_i oj hoj
   simp only [decide_eq_true_eq] at hg
   simp only at h
   split at h
   · rename_i x hx
     simp only [Option.some.injEq] at h
     have hy:=GU hf hoj hg hx
     subst h
     simp [Region.wanted,pK,hy]
   · rename_i cs hx
     simp only [Option.some.injEq] at h
     have hy:=GV hf hoj hg hx
     subst h
     simp [Region.wanted,pK,hy]
   · cases h
def JX (A:b7) (d:bH) (fr:Fr) (st:St):Prop:=
 (dM d.o.guard fr=some true/\∃ v,(step d.o.op fr st).Yields A st v/\∀ n,d.o.dst=some n->fr.get n=v)\/
 (dM d.o.guard fr=some false/\∀ n,d.o.dst=some n->fr.get n=.bY [])
theorem JX.congr {A:b7} {d:bH} {fr cF:Fr} {st:St} (h:∀ t,t∈d.reads\/d.o.dst=some t->fr.get t=cF.get t) (hv:JX A d fr st):JX A d cF st:=by
 have hg:dM d.o.guard fr=dM d.o.guard cF:=sH fun t ht=>h t (.inl (List.mem_append_left _ ht))
 have hs:step d.o.op fr st=step d.o.op cF st:=qF (fun t ht=>h t (.inl (List.mem_append_right _ ht))) st
 rcases hv with ⟨h1,v,h2,h3⟩|⟨h1,h2⟩
 · exact .inl ⟨hg▸h1,v,hs▸h2,fun n hn=>by rw [<-h n (.inr hn)];exact h3 n hn⟩
 · exact .inr ⟨hg▸h1,fun n hn=>by rw [<-h n (.inr hn)];exact h2 n hn⟩
theorem JX.pure {A:b7} {d:bH} {fr:Fr} {st:St} (hp:Es d.o.op=true) (cB:St) (hv:JX A d fr st):JX A d fr cB:=by
 rcases hv with ⟨h1,v,h2,h3⟩|h
 · refine .inl ⟨h1,v,fun K hK=>Pg hp A fr st cB K (h2 _ hK),h3⟩
 · exact .inr h
theorem nH {A:b7} {β:Type} {re:List Nat} {fr:Fr} {st:St} {k:T β} {K:β->Prop}:∀ {done:List bH},(∀ p∈done,cN p.ix re=true->j8 p.o.op=true)->(recheck re done fr st k).wp A K->
 k.wp A K/\∀ p∈done,cN p.ix re=true->dM p.o.guard fr=some true->∃ v,(step p.o.op fr st).Yields A st v/\∀ n,p.o.dst=some n->fr.get n=v
 |[],_,h=>⟨h,fun p hp=>by cases hp⟩
 |p::ps,hq,h=>by
  have U0:∀ q∈ps,cN q.ix re=true->j8 q.o.op=true:=fun q hm=>hq q (.tail _ hm)
  simp only [recheck] at h
  split at h
  · rename_i hm
    split at h
    · rename_i hg
      rw [T.wp_bind] at h
      obtain ⟨v,hy,h⟩:=T.fJ (Er (hq p (.head _) hm) fr st) h
      dsimp only at h
      have key:(∀ n,p.o.dst=some n->fr.get n=v)/\(recheck re ps fr st k).wp A K:=by
       split at h
       · rename_i n hn
         exact ⟨fun n' LD=>(by rw [hn] at LD;cases LD;exact h.1),h.2⟩
       · rename_i hn
         exact ⟨fun n' LD=>(by rw [hn] at LD;cases LD),h⟩
      obtain ⟨i1,i2⟩:=nH U0 key.2
      refine ⟨i1,fun q RE=>?_⟩
      rcases List.mem_cons.1 RE with rfl|RE
      · exact fun _ _=>⟨v,hy,key.1⟩
      · exact i2 q RE
    · rename_i hg
      obtain ⟨i1,i2⟩:=nH U0 h
      refine ⟨i1,fun q RE=>?_⟩
      rcases List.mem_cons.1 RE with rfl|RE
      · intro _ h3;rw [hg] at h3;cases h3
      · exact i2 q RE
    · exact h.elim
  · rename_i hm
    obtain ⟨i1,i2⟩:=nH U0 h
    refine ⟨i1,fun q RE=>?_⟩
    rcases List.mem_cons.1 RE with rfl|RE
    · intro h1;rw [hm] at h1;cases h1
    · exact i2 q RE
def Un (listed:Array Bool) (d:bH):Prop:=listed.getD d.ix true=false
structure AU (S:Nat) (E:Env) (st:St) (w:World) (a:Act) (d:bH) (b:Nat):Prop where
 size:S<=b
 ptr:∀ n,d.o.dst=some n->a.tmps.getD n undef=.pointer (some ⟨b,0,none⟩)
 obj:∃ g zero cells t fz,d.o.op=.alloc g zero/\d.o.guard=none/\w.heap[b]? =some (.cells cells t fz)/\tU 1 fz cells.size/\cells.size=zero.length/\(∀ F,eT F zero cells)/\∀ (j:Nat) (x:Value),cells[j]? =some x->x.oneCell'=true
 apart:∀ k,st.live k->(E.μ k).bS≠b
 j6:∀ o,E.I b o=none
theorem AU.step {S:Nat} {E E':Env} {st cB:St} {w w':World} {a a':Act} {d:bH} {b:Nat} (h:AU S E st w a d b) (hx:Ext E st w E' cB w') (ha:∀ n,d.o.dst=some n->a'.tmps.getD n undef=a.tmps.getD n undef):AU S E' cB w' a' d b:=by
 obtain ⟨g,zero,cells,t,fz,h1,h2,h3,h4⟩:=h.obj
 have hb:b<w.heap.size:=(Array.getElem?_eq_some_iff.1 h3).1
 refine ⟨h.size,fun n hn=>by rw [ha n hn];exact h.ptr n hn,⟨g,zero,cells,t,fz,h1,h2,by rw [hx.same b hb h.apart];exact h3,h4⟩,fun k hk=>?_,fun o=>?_⟩
 · by_cases he:E.has k
   · rw [hx.le.loc k he]
     exact h.apart k (hx.gT k hk he)
   · rcases hx.iB k hk he with h5|⟨k0,h5,h6⟩
     · omega
     · rw [<-h6];exact h.apart k0 h5
 · cases hI:E'.I b o with
   |none=>rfl
   |some x=>
    rcases hx.fT b o x hI with h5|h5|⟨k,h5,h6⟩
    · rw [h.j6 o] at h5;cases h5
    · omega
    · exact absurd h6 (h.apart k h5)
structure vA (S:Nat) (A:b7) (N:Nat) (K:Fr×St->Prop) (pre suf:List bH) (listed:Array Bool) (E:Env) (st:St) (w:World) (fr:Fr) (a:Act):Prop where
 LF:cH E st w
 size:a.tmps.size=N
 rel:∀ t,(∀ d∈pre,Un listed d->d.o.dst≠some t)->(∀ d∈suf,¬Un listed d->d.o.dst≠some t)->Rel E (fr.get t) (a.tmps.getD t undef)
 early:∃ B:Nat->Nat,(∀ d∈suf,¬Un listed d->AU S E st w a d (B d.ix))/\∀ d∈suf,∀ e∈suf,¬Un listed d->¬Un listed e->B d.ix=B e.ix->d.ix=e.ix
 Ih:∀ d∈pre,Un listed d->d.kX=false/\JX A d fr st
 run:∃ done,(∀ x,x∈done->x∈pre)/\(∀ x,x∈pre->x∈done)/\(pX done suf fr st).wp A K
structure tY (ops:Array Oper) (d e:bH):Prop where
 w:∀ n,e.o.dst=some n->(n∉d.reads/\d.o.dst≠some n)\/(e.kX=true/\Ph ops e.ix d.ix)
 r:∀ n,d.o.dst=some n->n∈e.reads->Ph ops e.ix d.ix
 l:d.kX=true->Ph ops e.ix d.ix\/vZ e=true
 s:e.kX=true->d.kX=false->Ph ops e.ix d.ix\/Es d.o.op=true\/cN d.ix e.re=true
 q:cN d.ix e.re=true->e.kX=true/\d.kX=false
 f:vZ e=true->∀ n,e.o.dst=some n->d.o.dst≠some n
theorem JY {ops:Array Oper} {NK:List (Nat×Nat)} (ht:Ev ops NK) {d e:bH} (h:Ml NK d e=true):tY ops d e:=by
 unfold Ml at h
 simp only [Bool.and_eq_true,Bool.or_eq_true,Bool.not_eq_true'] at h
 obtain ⟨⟨⟨⟨⟨h1,h2⟩,h3⟩,h4⟩,h5⟩,h6⟩:=h
 have hA:oZ d.ix (look NK e.ix)=true->Ph ops e.ix d.ix:=fun hm=>ht _ _ hm
 refine ⟨fun n hn=>?_,fun n hn hm=>?_,fun hl=>?_,fun hl hd=>?_,fun hm=>?_,fun hf n hn hd=>?_⟩
 · rw [hn] at h1
   simp only [Bool.or_eq_true,Bool.and_eq_true,Bool.not_eq_true'] at h1
   rcases h1 with h1|h1
   · refine .inl ⟨fun hm=>?_,fun hd=>?_⟩
     · rw [dC.2 hm] at h1;exact absurd h1.1 (by simp)
     · have:=h1.2
       simp [bH.is,hd] at this
   · exact .inr ⟨h1.1,hA h1.2⟩
 · rw [hn] at h2
   simp only [Bool.or_eq_true,Bool.not_eq_true'] at h2
   rcases h2 with h2|h2
   · rw [dC.2 hm] at h2;cases h2
   · exact hA h2
 · rcases h3 with (h3|h3)|h3
   · rw [hl] at h3;cases h3
   · exact .inl (hA h3)
   · exact .inr h3
 · rcases h4 with (((h4|h4)|h4)|h4)|h4
   · rw [hl] at h4;cases h4
   · rw [hd] at h4;cases h4
   · exact .inl (hA h4)
   · exact .inr (.inl h4)
   · exact .inr (.inr h4)
 · rcases h5 with h5|h5
   · rw [hm] at h5;cases h5
   · exact h5
 · rcases h6 with h6|h6
   · rw [hf] at h6;cases h6
   · rw [hn] at h6
     simp [bH.is,hd] at h6
theorem vA.advance {S:Nat} {P:Program} {ops:Array Oper} {N:Nat} {K:Fr×St->Prop} {pre suf:List bH} {q:bH} {listed:Array Bool} {E:Env} {st:St} {w:World} {fr:Fr} {a:Act}
 (h:vA S (aC P) N K pre (q::suf) listed E st w fr a) (hp:∀ d∈pre,tY ops d q) (hu:Un listed q) (hq:q.kX=false) (hqq:j8 q.o.op=true) (JZ:∀ n,q.o.dst=some n->n∉q.reads):
 ∃ cF,vA S (aC P) N K (pre++[q]) suf listed E st w cF a:=by
 obtain ⟨done,F6,Gf,eI⟩:=h.run
 simp only [pX] at eI
 obtain ⟨BF,J0,Ez⟩:=Ey eI
 -- L9 is known of LQ frame behind it
 have main:∀ (v:V),((dM q.o.guard fr=some true/\(step q.o.op fr st).Yields (aC P) st v)\/(dM q.o.guard fr=some false/\v=.bY []))->
  (pX (q::done) suf (BF.next q.o.dst v []) st).wp (aC P) K->∃ cF,vA S (aC P) N K (pre++[q]) suf listed E st w cF a:=by
  intro v hv hr
  have fU:∀ t,(BF.next q.o.dst v []).get t=if q.o.dst=some t then v else fr.get t:=fun t=>by rw [qE,J0]
  obtain ⟨B,RF,RG⟩:=h.early
  refine ⟨BF.next q.o.dst v [],h.LF,h.size,fun t ht yU=>?_,⟨B,fun d hd=>RF d (.tail _ hd),fun d hd e he=>RG d (.tail _ hd) e (.tail _ he)⟩,fun d hd RH=>?_,q::done,?_,?_,hr⟩
  · rw [fU]
    have dJ:q.o.dst≠some t:=ht q (by simp) hu
    rw [if_neg dJ]
    refine h.rel t (fun d hd=>ht d (List.mem_append_left _ hd)) fun d hd DD=>?_
    rcases List.mem_cons.1 hd with rfl|hd
    · exact absurd hu DD
    · exact yU d hd DD
  · rw [List.mem_append,List.mem_singleton] at hd
    rcases hd with hd|rfl
    · obtain ⟨h1,h2⟩:=h.Ih d hd RH
      refine ⟨h1,h2.congr fun t ht=>?_⟩
      rw [fU,if_neg]
      intro XL
      have:=(hp d hd).w t XL
      rcases this with this|this
      · rcases ht with ht|ht
        · exact this.1 ht
        · exact this.2 ht
      · rw [hq] at this;cases this.1
    · refine ⟨hq,?_⟩
      have hg:dM d.o.guard (BF.next d.o.dst v [])=dM d.o.guard fr:=sH fun t ht=>by
       rw [fU,if_neg]
       intro XL
       exact JZ t XL (List.mem_append_left _ ht)
      have hs:step d.o.op (BF.next d.o.dst v []) st=step d.o.op fr st:=qF (fun t ht=>by
       rw [fU,if_neg]
       intro XL
       exact JZ t XL (List.mem_append_right _ ht)) st
      have J1:∀ n,d.o.dst=some n->(BF.next d.o.dst v []).get n=v:=fun n hn=>by rw [fU,if_pos hn]
      rcases hv with ⟨h1,h2⟩|⟨h1,rfl⟩
      · exact .inl ⟨by rw [hg];exact h1,v,by rw [hs];exact h2,J1⟩
      · exact .inr ⟨by rw [hg];exact h1,J1⟩
  · intro x hx
    rcases List.mem_cons.1 hx with rfl|hx
    · simp
    · simp [F6 x hx]
  · intro x hx
    rw [List.mem_append,List.mem_singleton] at hx
    rcases hx with hx|rfl
    · exact .tail _ (Gf x hx)
    · exact .head _
 rcases Ez with ⟨hg,hw⟩|⟨hg,hw⟩
 · rw [T.wp_bind] at hw
   have hs:step q.o.op BF st=step q.o.op fr st:=qF (fun t _=>J0 t) st
   rw [hs] at hw
   obtain ⟨v,hy,hw⟩:=T.fJ (Er hqq fr st) hw
   dsimp only at hw
   rw [Fr.cW] at hw
   have pH:∀ p∈done,cN p.ix q.re=true->j8 p.o.op=true:=fun p U1 hm=>by
    have:=((hp p (F6 p U1)).q hm).1
    rw [hq] at this;cases this
   exact main v (.inl ⟨hg,hy⟩) (nH pH hw).1
 · rw [Fr.cW] at hw
   exact main (.bY []) (.inr ⟨hg,rfl⟩) hw
def wA (listed:Array Bool):List bH->List Nat
 |[]=>[]
 |d::r=>match listed.getD d.ix true,d.o.dst with
  |false,some n=>n::wA listed r
  |_,_=>wA listed r
theorem zX {listed:Array Bool} {n:Nat}:∀ {l:List bH},n∈wA listed l↔∃ d∈l,Un listed d/\d.o.dst=some n
 |[]=>by simp [wA]
 |d::r=>by
  have ih:=zX (listed:=listed) (n:=n) (l:=r)
  cases h1:listed.getD d.ix true with
  |true=>
   have hu:¬Un listed d:=by simp only [Un];rw [h1];simp
   simp only [wA,h1,ih]
   constructor
   · rintro ⟨e,he,h⟩;exact ⟨e,.tail _ he,h⟩
   · rintro ⟨e,he,h⟩
     rcases List.mem_cons.1 he with rfl|he
     · exact absurd h.1 hu
     · exact ⟨e,he,h⟩
  |false=>
   have hu:Un listed d:=h1
   cases h2:d.o.dst with
   |none=>
    simp only [wA,h1,h2,ih]
    constructor
    · rintro ⟨e,he,h⟩;exact ⟨e,.tail _ he,h⟩
    · rintro ⟨e,he,h⟩
      rcases List.mem_cons.1 he with rfl|he
      · rw [h2] at h;cases h.2
      · exact ⟨e,he,h⟩
   |some m=>
    simp only [wA,h1,h2,List.mem_cons,ih]
    constructor
    · rintro (rfl|⟨e,he,h⟩)
      · exact ⟨d,.inl rfl,hu,h2⟩
      · exact ⟨e,.inr he,h⟩
    · rintro ⟨e,he|he,h⟩
      · subst he;rw [h2] at h;left;exact (Option.some.inj h.2).symm
      · exact .inr ⟨e,he,h⟩
def wB (listed:Array Bool):List bH->List Nat
 |[]=>[]
 |d::r=>match listed.getD d.ix true,d.o.dst with
  |true,some n=>n::wB listed r
  |_,_=>wB listed r
theorem zY {listed:Array Bool} {n:Nat}:∀ {l:List bH},n∈wB listed l↔∃ d∈l,¬Un listed d/\d.o.dst=some n
 |[]=>by simp [wB]
 |d::r=>by
  have ih:=zY (listed:=listed) (n:=n) (l:=r)
  cases h1:listed.getD d.ix true with
  |false=>
   have hu:Un listed d:=h1
   simp only [wB,h1,ih]
   constructor
   · rintro ⟨e,he,h⟩;exact ⟨e,.tail _ he,h⟩
   · rintro ⟨e,he,h⟩
     rcases List.mem_cons.1 he with rfl|he
     · exact absurd hu h.1
     · exact ⟨e,he,h⟩
  |true=>
   have hu:¬Un listed d:=by simp only [Un];rw [h1];simp
   cases h2:d.o.dst with
   |none=>
    simp only [wB,h1,h2,ih]
    constructor
    · rintro ⟨e,he,h⟩;exact ⟨e,.tail _ he,h⟩
    · rintro ⟨e,he,h⟩
      rcases List.mem_cons.1 he with rfl|he
      · rw [h2] at h;cases h.2
      · exact ⟨e,he,h⟩
   |some m=>
    simp only [wB,h1,h2,List.mem_cons,ih]
    constructor
    · rintro (rfl|⟨e,he,h⟩)
      · exact ⟨d,.inl rfl,hu,h2⟩
      · exact ⟨e,.inr he,h⟩
    · rintro ⟨e,he|he,h⟩
      · subst he;rw [h2] at h;left;exact (Option.some.inj h.2).symm
      · exact .inr ⟨e,he,h⟩
def x8 (listed:Array Bool) (pre suf:List bH):List Nat:=wA listed pre++wB listed suf
theorem vA.frame {S:Nat} {A:b7} {N:Nat} {K:Fr×St->Prop} {pre suf:List bH} {listed:Array Bool} {E:Env} {st:St} {w:World} {fr:Fr} {a:Act} (h:vA S A N K pre suf listed E st w fr a):
 bB E N (fr.oY (x8 listed pre suf)) a:=by
 refine ⟨h.size,fun t=>?_⟩
 rw [Fr.iC]
 split
 · exact .gD _
 · rename_i hm
   refine h.rel t (fun d hd hu J1=>hm (dC.2 (List.mem_append.2 (.inl (zX.2 ⟨d,hd,hu,J1⟩))))) fun d hd hu J1=>hm (dC.2 (List.mem_append.2 (.inr (zY.2 ⟨d,hd,hu,J1⟩))))
structure RI (P:Program) (N:Nat) (ops:Array Oper) (d:bH) (o:Oper):Prop where
 at_:ops[d.ix]? =some o
 op:Mh P o.op d.o.op=true
 dst:d.o.dst=o.dst
 lt:∀ n,o.dst=some n->n<N
 gd:mE ops o.guard d.o.guard=true
 quiet:d.kX=false->j8 d.o.op=true
 self:∀ n,d.o.dst=some n->n∉d.reads
structure Ii (P:Program) (N:Nat) (ops:Array Oper) (ds:List bH):Prop where
 md:P.follows .mixedOrders=true
 one:∀ d∈ds,∃ o,RI P N ops d o
 pair:ds.Pairwise (tY ops)
 aa7:∀ pre d suf,ds=pre++d::suf->∀ o,ops[d.ix]? =some o->∀ e∈o.after,Region.binds .any e=true->∃ p∈pre,p.ix=e.on
 nodup:(ds.map (·.ix)).Nodup
 all:∀ i,i<ops.size->∃ d∈ds,d.ix=i
theorem zZ {ops:Array Oper} {listed:Array Bool} (mV:∀ i o,listed.getD i false=true->ops[i]? =some o->∀ e∈o.after,Region.binds .any e=true->listed.getD e.on false=true)
 {i j:Nat} (h:Ph ops i j) (hr:∀ o,ops[i]? =some o->∀ e∈o.after,Region.binds .any e=true->listed.getD e.on false=true):listed.getD j false=true:=by
 induction h with
 |aa4 ho he hb=>exact hr _ ho _ he hb
 |far ho he hb _ ih=>exact ih fun o' Wb=>mV _ o' (hr _ ho _ he hb) Wb
theorem z8 {listed:Array Bool} {d:bH} (h:Un listed d):listed.getD d.ix false=false:=by
 simp only [Un,Array.getD_eq_getD_getElem?] at h ⊢
 cases hq:listed[d.ix]? with
 |none=>rw [hq] at h;simp at h
 |some b=>rw [hq] at h;simpa using h
theorem cH.RJ {E:Env} {st:St} {w:World} (h:cH E st w) (g:Bool) (L:Loc) (o:Obj) (ho:Holds ((E.push g L fun _ _=>none).at (E.aO g)) w L o) (hap:∀ k,st.live k->(E.μ k).bS≠L.bS) (him:∀ j,E.I L.bS j=none):
 cH (E.push g L fun _ _=>none) (st.push g o) w:=by
 have hle:E.Le (E.push g L fun _ _=>none):=Env.rJ _ _ _ _
 have fU:∀ k,(st.push g o).get k=if k=E.aO g then some o else st.get k:=fun k=>by rw [St.kY,h.aO]
 have kQ:∀ k,(st.push g o).live k->k≠E.aO g->st.live k:=by
  rintro k ⟨x,hx⟩ dJ
  rw [fU,if_neg dJ] at hx
  exact ⟨x,hx⟩
 have Lu:(E.push g L fun _ _=>none).μ (E.aO g)=L:=Env.gE _ _ _ _
 have hI:∀ b j,(E.push g L fun _ _=>none).I b j=E.I b j:=fun b j=>by
  simp only [Env.push]
  cases E.I b j<;>rfl
 refine ⟨?_,?_,fun k hk=>?_,fun b j x hx=>?_,fun k x hk=>?_,fun k k' hk iT dJ=>?_,fun k hk j hj1 V9=>?_⟩
 · have:=h.ng;cases g<;>simp [St.push,aA.push,Env.push,this]
 · have:=h.nl;cases g<;>simp [St.push,aA.push,Env.push,this]
 · by_cases dJ:k=E.aO g
   · subst dJ;exact Env.fG _ _ _ _
   · exact hle.has (h.j7 k (kQ k hk dJ))
 · rw [hI] at hx
   exact h.j6 b j x hx
 · by_cases dJ:k=E.aO g
   · subst dJ
     rw [fU,if_pos rfl] at hk
     cases hk
     rw [Lu];exact ho
   · have hl:=kQ k ⟨x,hk⟩ dJ
     rw [fU,if_neg dJ] at hk
     rw [hle.loc k (h.j7 k hl)]
     exact (h.obj k x hk).dZ (Env.jC hle k) rfl
 · by_cases h1:k=E.aO g
   · subst h1
     have h2:k'≠E.aO g:=fun e=>dJ e.symm
     have hl:=kQ k' iT h2
     rw [Lu,hle.loc k' (h.j7 k' hl)]
     exact fun e=>hap k' hl e.symm
   · have hl:=kQ k hk h1
     by_cases h2:k'=E.aO g
     · subst h2
       rw [Lu,hle.loc k (h.j7 k hl)]
       exact hap k hl
     · have y9:=kQ k' iT h2
       rw [hle.loc k (h.j7 k hl),hle.loc k' (h.j7 k' y9)]
       exact h.sep k k' hl y9 dJ
 · rw [hI]
   by_cases h1:k=E.aO g
   · subst h1
     rw [Lu] at*
     exact him j
   · have hl:=kQ k hk h1
     rw [hle.loc k (h.j7 k hl)] at*
     exact h.own k hl j hj1 V9
theorem Ext.RJ {E0 E:Env} {st0 st:St} {w0 w:World} (hx:Ext E0 st0 w0 E st w) (h:cH E st w) (g:Bool) (L:Loc) (o:Obj) (hb:w0.heap.size<=L.bS):Ext E0 st0 w0 (E.push g L fun _ _=>none) (st.push g o) w:=by
 have hle:E.Le (E.push g L fun _ _=>none):=Env.rJ _ _ _ _
 have fU:∀ k,(st.push g o).get k=if k=E.aO g then some o else st.get k:=fun k=>by rw [St.kY,h.aO]
 have kQ:∀ k,(st.push g o).live k->k≠E.aO g->st.live k:=by
  rintro k ⟨x,hx⟩ dJ
  rw [fU,if_neg dJ] at hx
  exact ⟨x,hx⟩
 have hI:∀ b j,(E.push g L fun _ _=>none).I b j=E.I b j:=fun b j=>by
  simp only [Env.push]
  cases E.I b j<;>rfl
 refine ⟨hx.le.trans hle,hx.size,fun b j x hj=>?_,fun k hk he=>?_,fun k hk he=>?_,hx.same,hx.os,hx.out,hx.tape⟩
 · rw [hI] at hj
   exact hx.fT b j x hj
 · have dJ:k≠E.aO g:=fun e=>E.lZ g (e▸hx.le.has he)
   exact hx.gT k (kQ k hk dJ) he
 · by_cases h1:k=E.aO g
   · subst h1
     rw [Env.gE]
     exact .inl hb
   · have hl:=kQ k hk h1
     rw [hle.loc k (h.j7 k hl)]
     exact hx.iB k hl he
theorem cH.spare {E:Env} {st:St} {w w':World} (h:cH E st w) {ob:Go.Obj} (hh:w'.heap=w.heap.push ob) (ho:rL w w'):cH E st w'/\Ext E st w E st w':=by
 have hold:∀ b,b<w.heap.size->w'.heap[b]? =w.heap[b]? :=fun b hb=>by rw [hh,Array.getElem?_push,if_neg (by omega)]
 have OP:∀ b j x,E.I b j=some x->b<w.heap.size:=by
  intro b j x hx
  have:=h.j6 b j x hx
  simp only [bM] at this
  rcases Nat.lt_or_ge b w.heap.size with hl|hl
  · exact hl
  · simp [Array.getElem?_eq_none hl] at this
 refine ⟨⟨h.ng,h.nl,h.j7,fun b j x hx=>?_,fun k o hk=>(h.obj k o hk).dZ (Env.jC (.refl E) k) (hold _ (h.lt ⟨o,hk⟩)),h.sep,h.own⟩,
  ⟨.refl E,by rw [hh];simp,fun _ _ _ h=>.inl h,fun _ h _=>h,fun k h _=>.inr ⟨k,h,rfl⟩,fun b hb _=>hold b hb,ho.os,ho.out,ho.tape⟩⟩
 have:=h.j6 b j x hx
 simp only [bM,hold b (OP b j x hx)] at*
 exact this
theorem vA.catch {S:Nat} {P:Program} {ops:Array Oper} {N:Nat} {K:Fr×St->Prop} {pre suf:List bH} {q:bH} {listed:Array Bool} {E:Env} {st:St} {w:World} {fr:Fr} {a:Act}
 (h:vA S (aC P) N K pre (q::suf) listed E st w fr a) (hp:∀ d∈pre,tY ops d q) (Wq:∀ e∈suf,e.ix≠q.ix) (RK:∀ d∈pre,d.kX=false->j8 d.o.op=true) (hl:q.kX=true) (DD:¬Un listed q)
 (mV:∀ d∈pre,Un listed d->¬Ph ops q.ix d.ix):
 ∃ cF E' cB,vA S (aC P) N K (pre++[q]) suf listed E' cB w cF a/\∀ (E0:Env) (st0:St) (w0:World),w0.heap.size=S->Ext E0 st0 w0 E st w->Ext E0 st0 w0 E' cB w:=by
 obtain ⟨B,RF,RG⟩:=h.early
 have hE:=RF q (.head _) DD
 obtain ⟨g,zero,cells,t,fz,Ia,hgd,aa8,Lv,lI,aa9,iW⟩:=hE.obj
 obtain ⟨done,F6,Gf,eI⟩:=h.run
 simp only [pX] at eI
 obtain ⟨BF,J0,Ez⟩:=Ey eI
 replace Ez:=Ez.resolve_right fun hc=>by
  have hg:=hc.1
  rw [hgd] at hg
  simp [dM] at hg
 have hw:=Ez.2
 rw [T.wp_bind,Ia] at hw
 simp only [step,T.wp] at hw
 rw [Fr.cW] at hw
 have Mn:∀ p∈done,cN p.ix q.re=true->j8 p.o.op=true:=fun p U1 hm=>RK p (F6 p U1) ((hp p (F6 p U1)).q hm).2
 obtain ⟨BP,sW⟩:=nH Mn hw
 have hL:∀ F:Env,Holds F w ⟨B q.ix,0,cells.size⟩ (.cs zero):=fun F=>⟨rfl,cells,t,fz,aa8,Lv,by simp [lI],Nat.le_refl _,fun j v hj=>by
  obtain ⟨x,hx,hr⟩:=(aa9 F).get hj
  exact ⟨x,by simpa using hx,hr,iW j x hx⟩⟩
 have s1:=h.LF.RJ g ⟨B q.ix,0,cells.size⟩ (.cs zero) (hL _) hE.apart hE.j6
 have hle:E.Le (E.push g ⟨B q.ix,0,cells.size⟩ fun _ _=>none):=Env.rJ _ _ _ _
 have fU:∀ t,(BF.next q.o.dst (.p (st.aO g) 0) []).get t=if q.o.dst=some t then .p (st.aO g) 0 else fr.get t:=fun t=>by rw [qE,J0]
 have NM:∀ (e:bH),e∈pre->Un listed e->∀ t,t∈e.reads\/e.o.dst=some t->fr.get t=(BF.next q.o.dst (.p (st.aO g) 0) []).get t:=by
  intro e he Mo t ht
  rw [fU,if_neg]
  intro hLt
  rcases (hp e he).w t hLt with this|this
  · rcases ht with ht|ht
    · exact this.1 ht
    · exact this.2 ht
  · exact mV e he Mo this.2
 have hI:∀ b j,(E.push g ⟨B q.ix,0,cells.size⟩ fun _ _=>none).I b j=E.I b j:=fun b j=>by
  simp only [Env.push]
  cases E.I b j<;>rfl
 refine ⟨_,_,_,⟨s1,h.size,fun t ht yU=>?_,⟨B,fun d hd hu=>?_,fun d hd e he=>RG d (.tail _ hd) e (.tail _ he)⟩,fun e he hu=>?_,q::done,?_,?_,BP⟩,fun E0 st0 w0 hS hx=>hx.RJ h.LF g _ _ (by rw [hS];exact hE.size)⟩
 · rw [fU]
   by_cases NN:q.o.dst=some t
   · rw [if_pos NN,hE.ptr t NN]
     have:=Rel.p (E:=E.push g ⟨B q.ix,0,cells.size⟩ fun _ _=>none) (st.aO g) 0 (by rw [h.LF.aO];exact Env.fG _ _ _ _)
     rw [h.LF.aO,Env.gE] at this
     rw [h.LF.aO]
     exact this
   · rw [if_neg NN]
     refine (h.rel t (fun d hd=>ht d (List.mem_append_left _ hd)) fun d hd hu=>?_).mono hle
     rcases List.mem_cons.1 hd with rfl|hd
     · exact NN
     · exact yU d hd hu
 · have Zy:=RF d (.tail _ hd) hu
   refine ⟨Zy.size,Zy.ptr,Zy.obj,fun k hk=>?_,fun o=>by rw [hI];exact Zy.j6 o⟩
   by_cases h1:k=E.aO g
   · subst h1
     rw [Env.gE]
     intro e
     exact Wq d hd (RG q (.head _) d (.tail _ hd) DD hu e).symm
   · obtain ⟨x,hx⟩:=hk
     rw [St.kY,h.LF.aO,if_neg h1] at hx
     rw [hle.loc k (h.LF.j7 k ⟨x,hx⟩)]
     exact Zy.apart k ⟨x,hx⟩
 · rw [List.mem_append,List.mem_singleton] at he
   rcases he with he|rfl
   · obtain ⟨hv1,hv2⟩:=h.Ih e he hu
     refine ⟨hv1,?_⟩
     have Xq:=hv2.congr (NM e he hu)
     rcases (hp e he).s hl hv1 with hA|hA|hA
     · exact absurd hA (mV e he hu)
     · exact Xq.pure hA _
     · rcases Xq with ⟨g1,_⟩|g
       · exact .inl ⟨g1,sW e (Gf e he) hA g1⟩
       · exact .inr g
   · exact absurd hu DD
 · intro y hy
   rcases List.mem_cons.1 hy with rfl|hy
   · simp
   · simp [F6 y hy]
 · intro y hy
   rw [List.mem_append,List.mem_singleton] at hy
   rcases hy with hy|rfl
   · exact .tail _ (Gf y hy)
   · exact .head _
theorem vA.normal {P:Program} {ops:Array Oper} {N:Nat} {K:Fr×St->Prop} {listed:Array Bool} {E0:Env} {st0:St} {w0 w:World} {a:Act} (Ij:listed.size=ops.size) (mV:∀ i o,listed.getD i false=true->ops[i]? =some o->∀ e∈o.after,Region.binds .any e=true->listed.getD e.on false=true):∀ {suf pre:List bH} {fr:Fr} {E:Env} {st:St},
 vA w0.heap.size (aC P) N K pre suf listed E st w fr a->Ext E0 st0 w0 E st w->(pre++suf).Pairwise (tY ops)->((pre++suf).map (·.ix)).Nodup->(∀ d∈pre++suf,∃ o,RI P N ops d o)->
 ∃ J2 Ik cF E' cB,J2++Ik=pre++suf/\vA w0.heap.size (aC P) N K J2 Ik listed E' cB w cF a/\Ext E0 st0 w0 E' cB w/\∀ d r,Ik=d::r->d.kX=true/\Un listed d
 |[],pre,fr,E,st,h,hx,_,_,_=>⟨pre,[],fr,E,st,rfl,h,hx,fun d r hd=>by cases hd⟩
 |q::suf,pre,fr,E,st,h,hx,hp,hn,ho=>by
  have e:pre++[q]++suf=pre++q::suf:=by simp
  have hpq:∀ d∈pre,tY ops d q:=fun d hd=>(List.pairwise_append.1 hp).2.2 d hd q (.head _)
  obtain ⟨o,hq⟩:=ho q (by simp)
  by_cases hu:Un listed q
  · cases hl:q.kX with
    |true=>exact ⟨pre,q::suf,fr,E,st,rfl,h,hx,fun d r hd=>by cases hd;exact ⟨hl,hu⟩⟩
    |false=>
     obtain ⟨cF,h'⟩:=h.advance hpq hu hl (hq.quiet hl) hq.self
     obtain ⟨J2,Ik,Wr,E2,st2,e2,h2,h3,h4⟩:=vA.normal Ij mV h' hx (by rw [e];exact hp) (by rw [e];exact hn) (by rw [e];exact ho)
     exact ⟨J2,Ik,Wr,E2,st2,e2.trans e,h2,h3,h4⟩
  · have hl:q.kX=true:=by
     cases hl:q.kX with
     |true=>rfl
     |false=>
      obtain ⟨B,RF,_⟩:=h.early
      obtain ⟨g,zero,cells,t,fz,Ia,_⟩:=(RF q (.head _) hu).obj
      have:=hq.quiet hl
      rw [Ia] at this
      cases this
    have XL:listed.getD q.ix false=true:=by
     have cO:=(Array.getElem?_eq_some_iff.1 hq.at_).1
     rw [<-Ij] at cO
     simp only [Un,Array.getD_eq_getD_getElem?,Array.getElem?_eq_getElem cO] at hu ⊢
     simpa using hu
    obtain ⟨cF,E',cB,h',Uq⟩:=h.catch hpq (fun e he mT=>by
     rw [List.map_append,List.nodup_append] at hn
     have:=hn.2.1
     rw [List.map_cons,List.nodup_cons] at this
     exact this.1 (mT▸List.mem_map_of_mem he)) (fun d hd hdl=>by
     obtain ⟨od,hod⟩:=ho d (List.mem_append_left _ hd)
     exact hod.quiet hdl) hl hu (fun d hd Xn hA=>by
     have:=zZ mV hA (fun o1 LS=>mV _ o1 XL LS)
     rw [z8 Xn] at this
     cases this)
    obtain ⟨J2,Ik,Wr,E2,st2,e2,h2,h3,h4⟩:=vA.normal Ij mV h' (Uq E0 st0 w0 rfl hx) (by rw [e];exact hp) (by rw [e];exact hn) (by rw [e];exact ho)
    exact ⟨J2,Ik,Wr,E2,st2,e2.trans e,h2,h3,h4⟩
section
variable {P:Program} {ops:Array Oper} {N:Nat} {K:Fr×St->Prop} {Q:Exit->Act->World->Prop}
theorem RL {listed:Array Bool} {d e:bH} (h:Un (listed.setIfInBounds d.ix true) e) (hd:d.ix<listed.size):Un listed e/\e.ix≠d.ix:=by
 simp only [Un,Array.getD_eq_getD_getElem?] at h ⊢
 by_cases hi:d.ix=e.ix
 · rw [hi] at h hd
   simp [hd] at h
 · rw [Array.getElem?_setIfInBounds_ne hi] at h
   exact ⟨h,fun e=>hi e.symm⟩
theorem DE {listed:Array Bool} {d e:bH} (h:Un listed e) (hi:e.ix≠d.ix):Un (listed.setIfInBounds d.ix true) e:=by
 simp only [Un,Array.getD_eq_getD_getElem?] at h ⊢
 rw [Array.getElem?_setIfInBounds_ne (fun e=>hi e.symm)]
 exact h
theorem AV {a:Act} {dst:Option Nat} {x:Value} {t:Nat} (h:dst≠some t):(a.put dst x).tmps.getD t undef=a.tmps.getD t undef:=by
 cases dst with
 |none=>rfl
 |some d=>
  have:d≠t:=fun e=>h (by rw [e])
  simp only [Act.put,Array.getD_eq_getD_getElem?]
  rw [Array.getElem?_setIfInBounds_ne this]
theorem zG {a:Act} {d:Nat} {x:Value} (h:d<a.tmps.size):(a.put (some d) x).tmps.getD d undef=x:=by
 simp [Act.put,Array.getD_eq_getD_getElem?,h]
theorem EA (a:Act) (dst:Option Nat) (x:Value):(a.put dst x).tmps.size=a.tmps.size:=by cases dst<;>simp [Act.put]
end
section
variable {P:Program} {ops:Array Oper} {N:Nat} {K:Fr×St->Prop} {Q:Exit->Act->World->Prop}
structure RM (S:Nat) (P:Program) (N:Nat) (K:Fr×St->Prop) (ds:List bH) (listed:Array Bool) (E:Env) (st:St) (w:World) (a:Act) (a':Act) (w':World):Prop where
 ex:∃ pre suf cF cB E',pre++suf=ds/\vA S (aC P) N K pre suf listed E' cB w' cF a'/\Ext E st w E' cB w'/\a'.defers=a.defers
theorem CF {d:bH} (h:vZ d=true):∃ g zero,d.o.op=.alloc g zero/\d.o.guard=none/\d.kX=true:=by
 unfold vZ at h
 split at h
 · rename_i g zero h1 h2
   exact ⟨g,zero,h1,h2,h⟩
 · cases h
theorem Il {d:bH} (h:vZ d=true):d.reads=[]:=by
 obtain ⟨g,zero,h1,h2,_⟩:=CF h
 unfold bH.reads
 rw [h1,h2]
 rfl
theorem Pj {S:Nat} {ds pre suf:List bH} {listed:Array Bool} {E:Env} {st:St} {w:World} {fr:Fr} {a:Act} (hd:Ii P N ops ds) (kR:pre++suf=ds) (h:vA S (aC P) N K pre suf listed E st w fr a)
 (hS:S<=w.heap.size) (zH:∀ d r,suf=d::r->d.kX=true/\Un listed d) (Ij:listed.size=ops.size)
 (mV:∀ i o,listed.getD i false=true->ops[i]? =some o->∀ e∈o.after,Region.binds .any e=true->listed.getD e.on false=true)
 {i:Nat} (hr:i∈Region.ready .any ops listed):wpOp P ops Q i (RM S P N K ds (listed.setIfInBounds i true) E st w a) a w:=by
 obtain ⟨RH,o,ho,RN⟩:=mem_ready.1 hr
 have cO:i<ops.size:=(Array.getElem?_eq_some_iff.1 ho).1
 obtain ⟨d,Gk,rfl⟩:=hd.all i cO
 obtain ⟨o',iW⟩:=hd.one d Gk
 have:o'=o:=by have:=iW.at_;rw [ho] at this;exact (Option.some.inj this).symm
 subst this
 have RO:∀ j,Ph ops d.ix j->listed.getD j false=true:=fun j hj=>zZ mV hj (fun o1 h1=>by rw [ho] at h1;cases h1;exact RN)
 -- L9 it looks at is there
 have abB:d∈pre\/d∈suf:=by rw [<-kR] at Gk;exact List.mem_append.1 Gk
 have Ws:=hd.pair
 rw [<-kR] at Ws
 have J3:=List.pairwise_append.1 Ws
 have RP:∀ e∈ds,¬Un listed e->listed.getD e.ix false=true:=by
  intro e he DD
  obtain ⟨oe,hoe⟩:=hd.one e he
  have Mp:=(Array.getElem?_eq_some_iff.1 hoe.at_).1
  rw [<-Ij] at Mp
  simp only [Un,Array.getD_eq_getD_getElem?,Array.getElem?_eq_getElem Mp] at DD ⊢
  simpa using DD
 -- who was made ahead of NL U2 waits for Mm UN is still to anX
 have Im:∀ e∈suf,¬Un listed e->¬Ph ops e.ix d.ix:=by
  intro e he DD hA
  have:=zZ mV hA (fun o1 LS=>mV _ o1 (RP e (by rw [<-kR];exact List.mem_append_right _ he) DD) LS)
  rw [z8 RH] at this
  cases this
 have XM:∀ n∈d.reads,n∉x8 listed pre suf:=by
  intro n hn hm
  rcases List.mem_append.1 hm with hm|hm
  case inr=>
   obtain ⟨e,o8,DD,Rs⟩:=zY.1 hm
   have he:e∈ds:=by rw [<-kR];exact List.mem_append_right _ o8
   have hw:tY ops d e->False:=fun hpr=>by
    rcases hpr.w n Rs with h1|h1
    · exact h1.1 hn
    · exact Im e o8 DD h1.2
   rcases abB with hp|hp
   · exact hw (J3.2.2 d hp e o8)
   · cases suf with
     |nil=>cases hp
     |cons L r=>
      have hL:=zH L r rfl
      rcases List.mem_cons.1 o8 with rfl|QC
      · exact DD hL.2
      rcases List.mem_cons.1 hp with rfl|hp
      · exact hw ((List.pairwise_cons.1 J3.2.1).1 e QC)
      · rcases ((List.pairwise_cons.1 J3.2.1).1 d hp).l hL.1 with hA|hF
        · have h1:=RO _ hA
          rw [z8 hL.2] at h1;cases h1
        · rw [Il hF] at hn
          cases hn
  obtain ⟨e,hep,Mo,Rs⟩:=zX.1 hm
  have he:e∈ds:=by rw [<-kR];exact List.mem_append_left _ hep
  by_cases hde:e=d
  · subst hde;exact iW.self n Rs hn
  · rcases List.pairwise_iff_getElem.1 hd.pair with Ws
    obtain ⟨x,hx,RQ⟩:=List.getElem_of_mem he
    obtain ⟨y,hy,RR⟩:=List.getElem_of_mem Gk
    rcases Nat.lt_trichotomy x y with Gl|Gl|Gl
    · have:=Ws x y hx hy Gl
      rw [RQ,RR] at this
      have h1:=RO _ (this.r n Rs hn)
      rw [z8 Mo] at h1;cases h1
    · subst Gl;exact hde (RQ.symm.trans RR)
    · have:=Ws y x hy hx Gl
      rw [RQ,RR] at this
      rcases this.w n Rs with h1|h1
      · exact h1.1 hn
      · rw [(h.Ih e hep Mo).1] at h1;cases h1.1
 have Ic:=h.frame
 have lA:∀ t∈d.reads,(fr.oY (x8 listed pre suf)).get t=fr.get t:=fun t ht=>by
  rw [Fr.iC,if_neg (fun hm=>XM t ht (dC.1 hm))]
 have hgate:dM d.o.guard (fr.oY (x8 listed pre suf))=dM d.o.guard fr:=sH fun t ht=>lA t (List.mem_append_left _ ht)
 have oC:∀ s,step d.o.op (fr.oY (x8 listed pre suf)) s=step d.o.op fr s:=fun s=>qF (fun t ht=>lA t (List.mem_append_right _ ht)) s
 have Xn:Un listed d:=RH
 have RS:∀ e∈ds,e.ix=d.ix->e=d:=by
  intro e he mT
  obtain ⟨x,hx,RQ⟩:=List.getElem_of_mem he
  obtain ⟨y,hy,RR⟩:=List.getElem_of_mem Gk
  have Ws:=List.pairwise_iff_getElem.1 (List.pairwise_map.1 hd.nodup)
  rcases Nat.lt_trichotomy x y with Gl|Gl|Gl
  · have:=Ws x y hx hy Gl
    rw [RQ,RR] at this
    exact absurd mT this
  · subst Gl
    exact RQ.symm.trans RR
  · have:=Ws y x hy hx Gl
    rw [RQ,RR] at this
    exact absurd mT.symm this
 have abE:∀ n,d.o.dst=some n->n<a.tmps.size:=fun n hn=>by rw [h.size];exact iW.lt n (iW.dst▸hn)
 -- LQ cL behind it
 have abF:∀ e,¬Un listed e->¬Un (listed.setIfInBounds d.ix true) e:=fun e he hu=>he (RL hu (by rw [Ij];exact cO)).1
 have iX:∀ {E':Env} {v:V} {x:Value} {cF:Fr} {pp sf:List bH},(∀ e∈pre,e∈pp)->(∀ e∈suf,¬Un listed e->e∈sf)->E.Le E'->Rel E' v x->(∀ t,cF.get t=if d.o.dst=some t then v else fr.get t)->
  ∀ t,(∀ e∈pp,Un (listed.setIfInBounds d.ix true) e->e.o.dst≠some t)->(∀ e∈sf,¬Un (listed.setIfInBounds d.ix true) e->e.o.dst≠some t)->Rel E' (cF.get t) ((a.put o'.dst x).tmps.getD t undef):=by
  intro E' v x cF pp sf XN XO hle xU fU t ht yU
  rw [fU,<-iW.dst]
  by_cases NN:d.o.dst=some t
  · rw [if_pos NN,NN,zG (abE t NN)]
    exact xU
  · rw [if_neg NN,AV NN]
    refine (h.rel t (fun e he Mo LB=>?_) fun e he Mo=>yU e (XO e he Mo) (abF e Mo)).mono hle
    have ag2:e∈ds:=by rw [<-kR];exact List.mem_append_left _ he
    by_cases mT:e.ix=d.ix
    · exact NN (RS e ag2 mT▸LB)
    · exact ht e (XN e he) (DE Mo mT) LB
 have Io:∀ e,Un (listed.setIfInBounds d.ix true) e->Un listed e/\e.ix≠d.ix:=fun e he=>RL he (by rw [Ij];exact cO)
 -- who was made ahead of NL U2 stays asV it is
 have Wt:∀ {E':Env} {cB:St} {w':World} {x:Value} {sf:List bH},Ext E st w E' cB w'->(∀ e∈sf,e∈suf/\e.ix≠d.ix)->(∀ e∈suf,¬Un listed e->∀ n,e.o.dst=some n->d.o.dst≠some n)->
  ∃ B:Nat->Nat,(∀ e∈sf,¬Un (listed.setIfInBounds d.ix true) e->AU S E' cB w' (a.put o'.dst x) e (B e.ix))/\∀ e∈sf,∀ e'∈sf,¬Un (listed.setIfInBounds d.ix true) e->¬Un (listed.setIfInBounds d.ix true) e'->B e.ix=B e'.ix->e.ix=e'.ix:=by
  intro E' cB w' x sf hx XO J1
  obtain ⟨B,RF,RG⟩:=h.early
  have DD:∀ e∈sf,¬Un (listed.setIfInBounds d.ix true) e->¬Un listed e:=fun e he hu Rx=>hu (DE Rx (XO e he).2)
  refine ⟨B,fun e he hu=>(RF e (XO e he).1 (DD e he hu)).step hx fun n hn=>?_,fun e he e' D3 hu hu'=>RG e (XO e he).1 e' (XO e' D3).1 (DD e he hu) (DD e' D3 hu')⟩
  rw [<-iW.dst]
  exact AV (J1 e (XO e he).1 (DD e he hu) n hn)
 rcases abB with hp|hp
 · -- a quiet one,UN LQ frame alH afI
   obtain ⟨hl,hv⟩:=h.Ih d hp Xn
   have build:∀ {E':Env} {w':World} {v:V} {x:Value},cH E' st w'->Ext E st w E' st w'->Rel E' v x->(∀ n,d.o.dst=some n->fr.get n=v)->RM S P N K ds (listed.setIfInBounds d.ix true) E st w a (a.put o'.dst x) w':=by
    intro E' w' v x s1 s2 hr hn
    refine ⟨pre,suf,fr,st,E',kR,⟨s1,by rw [EA];exact h.size,?_,?_,?_,h.run⟩,s2,put_defers _ _ _⟩
    · refine iX (fun e he=>he) (fun e he _=>he) s2.le hr fun t=>?_
      by_cases ht:d.o.dst=some t
      · rw [if_pos ht];exact hn t ht
      · rw [if_neg ht]
    · refine Wt s2 (fun e he=>⟨he,fun mT=>?_⟩) fun e he DD n yT=>?_
      · have QD:=hd.nodup
        rw [<-kR,List.map_append,List.nodup_append] at QD
        exact QD.2.2 _ (List.mem_map_of_mem hp) _ (List.mem_map_of_mem he) mT.symm
      · rcases (J3.2.2 d hp e he).w n yT with h1|h1
        · exact h1.2
        · exact absurd h1.2 (Im e he DD)
    · intro e he hu
      exact h.Ih e he (Io e hu).1
   unfold wpOp
   simp only [ho]
   rcases hv with ⟨h1,v,hy,hn⟩|⟨h1,hn⟩
   · rw [if_pos (nZ iW.gd Ic (hgate.trans h1))]
     refine .inl (step_ok iW.op h.LF Ic (K:=fun r=>r=(v,st)) (by rw [oC];exact hy _ rfl) ?_)
     intro v' cB E' w' x hk s1 s2 hr
     cases hk
     exact build s1 s2 hr hn
   · rw [if_neg (by rw [nZ iW.gd Ic (hgate.trans h1)];simp)]
     exact build h.LF (.refl _ _ _) gC hn
 · -- LQ next kX one
   obtain ⟨L,r,XP⟩:∃ L r,suf=L::r:=by
    cases suf with
    |nil=>cases hp
    |cons L r=>exact ⟨L,r,rfl⟩
   subst XP
   have hL:=(zH L r rfl).1
   have hLu:=(zH L r rfl).2
   have QD:=hd.nodup
   rw [<-kR,List.map_append,List.nodup_append] at QD
   have abG:=QD.2.1
   rw [List.map_cons,List.nodup_cons] at abG
   by_cases hLd:L=d
   case neg=>
    -- a new object,made ahead of NL U2
    have hp:d∈r:=by
     rcases List.mem_cons.1 hp with hp|hp
     · exact absurd hp.symm hLd
     · exact hp
    have hF:vZ d=true:=by
     rcases ((List.pairwise_cons.1 J3.2.1).1 d hp).l hL with hA|hF
     · have h1:=RO _ hA
       rw [z8 hLu] at h1;cases h1
     · exact hF
    obtain ⟨g,zero,Ia,hgd,_⟩:=CF hF
    have dW:=iW.op
    rw [Ia] at dW
    obtain ⟨ty,hot,hz⟩:∃ ty,o'.op=.alloc ty/\mB P ty zero=true:=by
     simp only [Mh] at dW
     split at dW
     · exact ⟨_,by assumption,dW⟩
     · cases dW
    obtain ⟨ti,z,hi,D9,lI,hzr,hl,h1⟩:=jS hz
    have hgw:dM d.o.guard (fr.oY (x8 listed pre (L::r)))=some true:=by rw [hgd];rfl
    unfold wpOp
    simp only [ho]
    rw [if_pos (nZ iW.gd Ic hgw)]
    refine .inl (aX (x:=.pointer (some ⟨w.heap.size,0,none⟩)) (by simp [execOp,hot,Instr.alloc,nR hi D9,newVar,newRow]) (w':=w.alloc (.cells z.cells ty)) ?_)
    obtain ⟨s1,s2⟩:=h.LF.spare (w':=w.alloc (.cells z.cells ty)) (ob:=.cells z.cells ty) rfl ⟨rfl,rfl,rfl⟩
    obtain ⟨B,RF,RG⟩:=h.early
    have abH:∀ e∈L::r,¬Un listed e->B e.ix<w.heap.size:=fun e he hu=>by
     obtain ⟨_,_,cells,t,fz,_,_,h3,_⟩:=(RF e he hu).obj
     exact (Array.getElem?_eq_some_iff.1 h3).1
    have J4:∀ e∈L::r,¬Un (listed.setIfInBounds d.ix true) e->e.ix=d.ix\/¬Un listed e:=fun e he hu=>by
     by_cases mT:e.ix=d.ix
     · exact .inl mT
     · exact .inr fun Rx=>hu (DE Rx mT)
    refine ⟨pre,L::r,fr,st,E,kR,⟨s1,by rw [EA];exact h.size,fun t ht yU=>?_,⟨fun i=>if i=d.ix then w.heap.size else B i,fun e he hu=>?_,fun e he e' D3 hu hu' LB=>?_⟩,fun e he hu=>h.Ih e he (Io e hu).1,h.run⟩,s2,put_defers _ _ _⟩
    · have NN:d.o.dst≠some t:=yU d (.tail _ hp) fun hu=>(Io d hu).2 rfl
      rw [<-iW.dst,AV NN]
      refine h.rel t (fun e he Mo LB=>ht e he (DE Mo fun mT=>?_) LB) fun e he Mo=>yU e he (abF e Mo)
      exact NN (RS e (by rw [<-kR];exact List.mem_append_left _ he) mT▸LB)
    · by_cases mT:e.ix=d.ix
      · have Rs:=RS e (by rw [<-kR];exact List.mem_append_right _ he) mT
        subst Rs
        dsimp only
        rw [if_pos rfl]
        refine ⟨hS,fun n hn=>?_,⟨g,zero,z.cells,ty,(0,0),Ia,hgd,(by show (w.heap.push _)[w.heap.size]? =_;simp),.inl rfl,by omega,hzr,h1⟩,fun k hk=>?_,fun ob=>?_⟩
        · rw [<-iW.dst,hn,zG (abE n hn)]
        · have:=h.LF.lt hk
          omega
        · cases hI:E.I w.heap.size ob with
          |none=>rfl
          |some x=>
           have:=h.LF.j6 _ _ _ hI
           simp [bM] at this
      · have Rx:=(J4 e he hu).resolve_left mT
        dsimp only
        rw [if_neg mT]
        refine (RF e he Rx).step s2 fun n hn=>?_
        rw [<-iW.dst]
        refine AV fun hdn=>?_
        have dJ:e≠d:=fun e2=>mT (by rw [e2])
        rcases List.mem_cons.1 he with rfl|QC
        · exact Rx hLu
        · have abI:=List.pairwise_iff_getElem.1 (List.pairwise_cons.1 J3.2.1).2
          obtain ⟨x,hx,RQ⟩:=List.getElem_of_mem QC
          obtain ⟨y,hy,RR⟩:=List.getElem_of_mem hp
          rcases Nat.lt_trichotomy x y with Gl|Gl|Gl
          · have:=abI x y hx hy Gl
            rw [RQ,RR] at this
            exact this.f hF n hdn hn
          · subst Gl
            exact dJ (RQ.symm.trans RR)
          · have:=abI y x hy hx Gl
            rw [RQ,RR] at this
            rcases this.w n hn with h2|h2
            · exact h2.2 hdn
            · exact Im e (.tail _ QC) Rx h2.2
    · dsimp only at LB
      by_cases h1:e.ix=d.ix
      · by_cases h2:e'.ix=d.ix
        · rw [h1,h2]
        · rw [if_pos h1,if_neg h2] at LB
          have:=abH e' D3 ((J4 e' D3 hu').resolve_left h2)
          omega
      · by_cases h2:e'.ix=d.ix
        · rw [if_neg h1,if_pos h2] at LB
          have:=abH e he ((J4 e he hu).resolve_left h1)
          omega
        · rw [if_neg h1,if_neg h2] at LB
          exact RG e he e' D3 ((J4 e he hu).resolve_left h1) ((J4 e' D3 hu').resolve_left h2) LB
   subst hLd
   have RT:∀ e∈pre,tY ops e L:=fun e he=>J3.2.2 e he L (.head _)
   obtain ⟨done,F6,Gf,eI⟩:=h.run
   simp only [pX] at eI
   obtain ⟨BF,J0,Ez⟩:=Ey eI
   have build:∀ {E':Env} {cB:St} {w':World} {v:V} {x:Value},cH E' cB w'->Ext E st w E' cB w'->Rel E' v x->(∀ e∈pre,Un listed e->JX (aC P) e (BF.next L.o.dst v []) cB)->
    (pX (L::done) r (BF.next L.o.dst v []) cB).wp (aC P) K->RM S P N K ds (listed.setIfInBounds L.ix true) E st w a (a.put o'.dst x) w':=by
    intro E' cB w' v x s1 s2 hr hv hw
    have ag3:pre++[L]++r=ds:=by rw [<-kR];simp
    have fU:∀ t,(BF.next L.o.dst v []).get t=if L.o.dst=some t then v else fr.get t:=fun t=>by rw [qE,J0]
    refine ⟨pre++[L],r,BF.next L.o.dst v [],cB,E',ag3,⟨s1,by rw [EA];exact h.size,?_,?_,?_,L::done,?_,?_,hw⟩,s2,put_defers _ _ _⟩
    · refine iX (fun e he=>List.mem_append_left _ he) (fun e he hu=>?_) s2.le hr fU
      rcases List.mem_cons.1 he with rfl|he
      · exact absurd hLu hu
      · exact he
    · refine Wt s2 (fun e he=>⟨.tail _ he,fun mT=>abG.1 (mT▸List.mem_map_of_mem he)⟩) fun e he DD n yT=>?_
      rcases List.mem_cons.1 he with rfl|he
      · exact absurd hLu DD
      · rcases ((List.pairwise_cons.1 J3.2.1).1 e he).w n yT with h1|h1
        · exact h1.2
        · exact absurd h1.2 (Im e (.tail _ he) DD)
    · intro e he hu
      obtain ⟨hu1,Rx⟩:=Io e hu
      rw [List.mem_append,List.mem_singleton] at he
      rcases he with he|rfl
      · exact ⟨(h.Ih e he hu1).1,hv e he hu1⟩
      · exact absurd rfl Rx
    · intro y hy
      rcases List.mem_cons.1 hy with rfl|hy
      · simp
      · simp [F6 y hy]
    · intro y hy
      rw [List.mem_append,List.mem_singleton] at hy
      rcases hy with hy|rfl
      · exact .tail _ (Gf y hy)
      · exact .head _
   -- L9 is known of LQ frame holds on behind it
   have NM:∀ (v:V) (e:bH),e∈pre->Un listed e->∀ t,t∈e.reads\/e.o.dst=some t->fr.get t=(BF.next L.o.dst v []).get t:=by
    intro v e he Mo t ht
    rw [qE,J0,if_neg]
    intro hLt
    rcases (RT e he).w t hLt with this|this
    · rcases ht with ht|ht
      · exact this.1 ht
      · exact this.2 ht
    · have h1:=RO _ this.2
      rw [z8 Mo] at h1;cases h1
   unfold wpOp
   simp only [ho]
   rcases Ez with ⟨hg,hw⟩|⟨hg,hw⟩
   · rw [if_pos (nZ iW.gd Ic (hgate.trans hg))]
     rw [T.wp_bind] at hw
     have zI:step L.o.op BF st=step L.o.op fr st:=qF (fun t _=>J0 t) st
     rw [zI,<-oC] at hw
     refine .inl (step_ok iW.op h.LF Ic hw ?_)
     intro v cB E' w' x hk s1 s2 hr
     dsimp only at hk
     rw [Fr.cW] at hk
     have Mn:∀ p∈done,cN p.ix L.re=true->j8 p.o.op=true:=fun p U1 hm=>by
      have XN:=F6 p U1
      obtain ⟨op,Ia⟩:=hd.one p (by rw [<-kR];exact List.mem_append_left _ XN)
      exact Ia.quiet ((RT p XN).q hm).2
     obtain ⟨BP,sW⟩:=nH Mn hk
     refine build s1 s2 hr (fun e he hu=>?_) BP
     obtain ⟨hl,hv⟩:=h.Ih e he hu
     have Xq:=hv.congr (NM v e he hu)
     rcases (RT e he).s hL hl with hA|hA|hA
     · have h1:=RO _ hA
       rw [z8 hu] at h1;cases h1
     · exact Xq.pure hA cB
     · rcases Xq with ⟨g1,_⟩|g
       · exact .inl ⟨g1,sW e (Gf e he) hA g1⟩
       · exact .inr g
   · rw [if_neg (by rw [nZ iW.gd Ic (hgate.trans hg)];simp)]
     rw [Fr.cW] at hw
     exact build h.LF (.refl _ _ _) gC (fun e he hu=>(h.Ih e he hu).2.congr (NM _ e he hu)) hw
end
section
variable {P:Program} {ops:Array Oper} {N:Nat} {K:Fr×St->Prop} {Q:Exit->Act->World->Prop}
def iI (listed:Array Bool):List bH->Nat
 |[]=>0
 |d::r=>(match listed.getD d.ix true with|false=>1|true=>0)+iI listed r
theorem AW {listed:Array Bool}:∀ {l:List bH},iI listed l=0->∀ d∈l,¬Un listed d
 |[],_,d,hd=>by cases hd
 |e::r,h,d,hd=>by
  simp only [iI] at h
  have h1:(match listed.getD e.ix true with|false=>1|true=>0)=0:=by omega
  rcases List.mem_cons.1 hd with rfl|hd
  · intro hu
    simp only [Un] at hu
    rw [hu] at h1;simp at h1
  · exact AW (by omega) d hd
end
section
variable {P:Program} {ops:Array Oper} {N:Nat} {K:Fr×St->Prop} {Q:Exit->Act->World->Prop}
theorem zJ {listed:Array Bool} {i:Nat}:∀ {l:List bH},(∀ d∈l,d.ix≠i)->iI (listed.setIfInBounds i true) l=iI listed l
 |[],_=>rfl
 |d::r,h=>by
  have hd:(listed.setIfInBounds i true).getD d.ix true=listed.getD d.ix true:=by
   simp only [Array.getD_eq_getD_getElem?]
   rw [Array.getElem?_setIfInBounds_ne (fun e=>h d (.head _) e.symm)]
  simp only [iI,hd,zJ (fun e he=>h e (.tail _ he))]
theorem CG {listed:Array Bool} {d:bH} (cO:d.ix<listed.size) (hu:Un listed d):∀ {l:List bH},(l.map (·.ix)).Nodup->d∈l->iI (listed.setIfInBounds d.ix true) l+1=iI listed l
 |[],_,h=>by cases h
 |e::r,hn,h=>by
  rw [List.map_cons,List.nodup_cons] at hn
  rcases List.mem_cons.1 h with rfl|h
  · have hs:(listed.setIfInBounds d.ix true).getD d.ix true=true:=by simp [Array.getD_eq_getD_getElem?,cO]
    have ho:iI (listed.setIfInBounds d.ix true) r=iI listed r:=zJ fun e he mT=>hn.1 (mT▸List.mem_map_of_mem he)
    simp only [Un] at hu
    simp only [iI,hs,hu,ho]
    omega
  · have dJ:e.ix≠d.ix:=fun mT=>hn.1 (mT▸List.mem_map_of_mem h)
    have he:(listed.setIfInBounds d.ix true).getD e.ix true=listed.getD e.ix true:=by
     simp only [Array.getD_eq_getD_getElem?]
     rw [Array.getElem?_setIfInBounds_ne (fun q=>dJ q.symm)]
    have ih:=CG cO hu hn.2 h
    simp only [iI,he]
    omega
theorem CH {ds:List bH} (hd:Ii P N ops ds) {listed:Array Bool} (Ij:listed.size=ops.size) (hr:Region.ready .any ops listed=[]):∀ (pre suf:List bH),ds=pre++suf->(∀ d∈pre,¬Un listed d)->∀ d∈ds,¬Un listed d
 |pre,[],h,hp=>fun d Gk=>hp d (by rw [h] at Gk;simpa using Gk)
 |pre,d::suf,h,hp=>by
  refine CH hd Ij hr (pre++[d]) suf (by rw [h];simp) fun e he=>?_
  rw [List.mem_append,List.mem_singleton] at he
  rcases he with he|rfl
  · exact hp e he
  · intro hu
    obtain ⟨o,ho⟩:=hd.one e (by rw [h];simp)
    have:e.ix∈Region.ready .any ops listed:=mem_ready.2 ⟨hu,o,ho.at_,fun ed Rs hb=>by
     obtain ⟨p,XQ,hpi⟩:=hd.aa7 pre e suf h o ho.at_ ed Rs hb
     have:=hp p XQ
     rw [<-hpi]
     simp only [Un,Array.getD_eq_getD_getElem?] at this ⊢
     cases hq:listed[p.ix]? with
     |none=>
      obtain ⟨op,Ia⟩:=hd.one p (by rw [h];exact List.mem_append_left _ XQ)
      have h1:=(Array.getElem?_eq_some_iff.1 Ia.at_).1
      have h2:=Array.getElem?_eq_none_iff.1 hq
      omega
     |some b=>rw [hq] at this;simp at this ⊢;exact this⟩
    rw [hr] at this;cases this
end
section
variable {P:Program} {ops:Array Oper} {N:Nat} {K:Fr×St->Prop} {Q:Exit->Act->World->Prop}
theorem RU {ds:List bH} (hd:Ii P N ops ds) {E0:Env} {st0:St} {w0:World} {a0:Act}
 (hQ:∀ fr st E a w,K (fr,st)->cH E st w->Ext E0 st0 w0 E st w->bB E N fr a->a.defers=a0.defers->Q .normal a w):
 ∀ (fuel:Nat) {pre suf:List bH} {listed:Array Bool} {E:Env} {st:St} {w:World} {fr:Fr} {a:Act},pre++suf=ds->vA w0.heap.size (aC P) N K pre suf listed E st w fr a->Ext E0 st0 w0 E st w->a.defers=a0.defers->listed.size=ops.size->
  (∀ i o,listed.getD i false=true->ops[i]? =some o->∀ e∈o.after,Region.binds .any e=true->listed.getD e.on false=true)->iI listed ds<=fuel->wpAny P .any ops Q fuel listed a w:=by
 have fin:∀ {pre suf:List bH} {listed:Array Bool} {E:Env} {st:St} {w:World} {fr:Fr} {a:Act},pre++suf=ds->vA w0.heap.size (aC P) N K pre suf listed E st w fr a->Ext E0 st0 w0 E st w->a.defers=a0.defers->listed.size=ops.size->(∀ d r,suf=d::r->d.kX=true/\Un listed d)->
  Region.ready .any ops listed=[]->Q .normal a w:=by
  intro pre suf listed E st w fr a kR h he ZA Ij zH hr
  have fH:=CH hd Ij hr [] ds rfl (fun d hd=>by cases hd)
  have XP:suf=[]:=by
   cases suf with
   |nil=>rfl
   |cons d r=>exact absurd (zH d r rfl).2 (fH d (by rw [<-kR];simp))
  subst XP
  obtain ⟨done,_,_,eI⟩:=h.run
  refine hQ fr st E a w eI h.LF he ⟨h.size,fun t=>h.rel t (fun d Gk hu=>?_) fun d Gk=>by cases Gk⟩ ZA
  exact absurd hu (fH d (by rw [<-kR];exact List.mem_append_left _ Gk))
 intro fuel
 induction fuel with
 |zero=>
  intro pre suf listed E st w fr a kR h he ZA Ij mV hc
  have Ek:=AW (listed:=listed) (l:=ds) (by omega)
  have hr:Region.ready .any ops listed=[]:=by
   rw [List.eq_nil_iff_forall_not_mem]
   intro i hi
   obtain ⟨RH,o,ho,_⟩:=mem_ready.1 hi
   obtain ⟨d,Gk,rfl⟩:=hd.all i (Array.getElem?_eq_some_iff.1 ho).1
   exact Ek d Gk RH
  obtain ⟨J2,Ik,cF,E',cB,sY,h',D3,zH⟩:=h.normal (ops:=ops) Ij mV he (by rw [kR];exact hd.pair) (by rw [kR];exact hd.nodup) (by rw [kR];exact hd.one)
  exact ⟨hr,fin (sY.trans kR) h' D3 ZA Ij zH hr⟩
 |succ fuel ih=>
  intro pre suf listed E st w fr a kR h he ZA Ij mV hc
  obtain ⟨J2,Ik,cF,E',cB,sY,h',D3,zH⟩:=h.normal (ops:=ops) Ij mV he (by rw [kR];exact hd.pair) (by rw [kR];exact hd.nodup) (by rw [kR];exact hd.one)
  rw [kR] at sY
  refine ⟨fun hr=>fin sY h' D3 ZA Ij zH hr,fun i hi=>?_⟩
  refine wpOp_mono ?_ (Pj hd sY h' D3.size zH Ij mV hi)
  rintro a1 w1 ⟨p1,s1,f1,st1,E1,ag5,Uv,abJ,ag6⟩
  obtain ⟨RH,o,ho,RN⟩:=mem_ready.1 hi
  have ag7:=(Array.getElem?_eq_some_iff.1 ho).1
  obtain ⟨d,Gk,rfl⟩:=hd.all i ag7
  refine ih ag5 Uv (D3.trans abJ) (ag6.trans ZA) (by simpa using Ij) ?_ ?_
  · intro j o' hj Wb e LB hb
    have key:listed.getD e.on false=true:=by
     by_cases zE:j=d.ix
     · subst zE
       rw [ho] at Wb;cases Wb
       exact RN e LB hb
     · refine mV j o' ?_ Wb e LB hb
       simp only [Array.getD_eq_getD_getElem?] at hj ⊢
       rw [Array.getElem?_setIfInBounds_ne (fun q=>zE q.symm)] at hj
       exact hj
    exact getD_set_true key
  · have:=CG (listed:=listed) (d:=d) (by omega) RH hd.nodup Gk
    omega
end
section
variable {P:Program} {ops:Array Oper} {N:Nat} {K:Fr×St->Prop} {Q:Exit->Act->World->Prop}
theorem AX {NK:List (Nat×Nat)} (ht:Ev ops NK):∀ {ds:List bH},DA NK ds=true->ds.Pairwise (tY ops)
 |[],_=>.nil
 |d::r,h=>by
  simp only [DA,Bool.and_eq_true,List.all_eq_true] at h
  exact .cons (fun e he=>JY ht (h.1 e he)) (AX ht h.2)
theorem AY:∀ {ds:List bH} {seen:List Nat},DB ops seen ds=true->
 (∀ pre d suf,ds=pre++d::suf->∀ o,ops[d.ix]? =some o->∀ e∈o.after,Region.binds .any e=true->e.on∈seen\/∃ p∈pre,p.ix=e.on)/\(ds.map (·.ix)).Nodup/\∀ d∈ds,d.ix∉seen
 |[],seen,_=>⟨fun pre d suf h=>by simp at h,by simp,fun d hd=>by cases hd⟩
 |q::r,seen,h=>by
  simp only [DB,Bool.and_eq_true,Bool.not_eq_true'] at h
  obtain ⟨⟨h1,h2⟩,h3⟩:=h
  obtain ⟨i1,i2,i3⟩:=AY h3
  have hq:q.ix∉seen:=fun hm=>by rw [dC.2 hm] at h2;cases h2
  refine ⟨fun pre d suf kR o ho e he hb=>?_,?_,?_⟩
  · cases pre with
    |nil=>
     simp only [List.nil_append,List.cons.injEq] at kR
     obtain ⟨rfl,rfl⟩:=kR
     rw [ho] at h1
     simp only [List.all_eq_true] at h1
     left
     refine dC.1 (h1 e.on ?_)
     simp only [Dz,List.mem_map,List.mem_filter]
     exact ⟨e,⟨by simpa using he,hb⟩,rfl⟩
    |cons p pre=>
     simp only [List.cons_append,List.cons.injEq] at kR
     obtain ⟨rfl,rfl⟩:=kR
     rcases i1 pre d suf rfl o ho e he hb with hm|⟨p,hp,hpi⟩
     · rcases List.mem_cons.1 hm with hm|hm
       · exact .inr ⟨q,.head _,hm.symm⟩
       · exact .inl hm
     · exact .inr ⟨p,.tail _ hp,hpi⟩
  · rw [List.map_cons,List.nodup_cons]
    refine ⟨fun hm=>?_,i2⟩
    obtain ⟨d,hd,hdi⟩:=List.mem_map.1 hm
    exact i3 d hd (by rw [hdi];exact .head _)
  · intro d hd
    rcases List.mem_cons.1 hd with rfl|hd
    · exact hq
    · exact fun hm=>i3 d hd (.tail _ hm)
end
end Go.Eng
