/-
Regions whose order is drawn: one order serves for all.
-/
import Derived.Test.YtdjbjnnfmkoceaaGreatX02
import Derived.Test.YtdjbjnnfmkoceaaGreatX03
import Derived.Orders
set_option linter.unusedVariables false
set_option linter.unusedSimpArgs false
namespace Go.Eng
open Go
inductive HD (ops:Array Oper):Nat->Nat->Prop
 |UW {i:Nat} {o:Oper} {e:Edge} (ho:ops[i]? =some o) (he:e∈o.after) (hb:Region.binds .any e=true):HD ops i e.on
 |ZP {i j:Nat} {o:Oper} {e:Edge} (ho:ops[i]? =some o) (he:e∈o.after) (hb:Region.binds .any e=true) (h:HD ops e.on j):HD ops i j
def look:List (Nat×Nat)->Nat->Nat
 |[],_=>0
 |(k,l)::r,n=>match Nat.beq k n with
  |true=>l
  |false=>look r n
def jL (o:Oper):List Nat:=(o.after.toList.filter (Region.binds .any)).map (·.on)
def jB (j m:Nat):Bool:=Nat.testBit m j
def xT (xU:List (Nat×Nat)):List Nat->Nat->Nat
 |[],m=>m
 |j::r,m=>xT xU r (Nat.lor m (Nat.lor (Nat.shiftLeft 1 j) (look xU j)))
theorem uM (xU:List (Nat×Nat)) (j:Nat):∀ (l:List Nat) (m:Nat),jB j (xT xU l m)=true->jB j m=true\/∃ k,k∈l/\(j=k\/jB j (look xU k)=true)
 |[],m,h=>.inl h
 |k::r,m,h=>by
  rcases uM xU j r _ h with h|⟨q,hq,h⟩
  · simp only [jB] at h ⊢
    have h:(m|||((1<<<k)|||look xU k)).testBit j=true:=h
    rw [Nat.testBit_or,Nat.testBit_or] at h
    simp only [Bool.or_eq_true] at h
    rcases h with h|h|h
    · exact .inl h
    · refine .inr ⟨k,by simp,.inl ?_⟩
      rw [Nat.testBit_shiftLeft] at h
      simp only [ge_iff_le,Bool.and_eq_true,decide_eq_true_eq] at h
      have:=Nat.testBit_one_eq_true_iff_self_eq_zero.1 h.2
      omega
    · exact .inr ⟨k,by simp,.inr h⟩
  · exact .inr ⟨q,by simp [hq],h⟩
def BA (ops:Array Oper) (xU:List (Nat×Nat)) (i:Nat):List (Nat×Nat):=
 match ops[i]? with
 |some o=>(i,xT xU (jL o) 0)::xU
 |none=>xU
def Fv (ops:Array Oper):List Nat->List (Nat×Nat)->List (Nat×Nat)
 |[],xU=>xU
 |i::r,xU=>Fv ops r (BA ops xU i)
def xV (ops:Array Oper) (xU:List (Nat×Nat)):Prop:=∀ i j,jB j (look xU i)=true->HD ops i j
theorem ancStep_ok {ops:Array Oper} {xU:List (Nat×Nat)} (h:xV ops xU) (i:Nat):xV ops (BA ops xU i):=by
 unfold BA
 split
 · rename_i o ho
   intro i' j hj
   simp only [look] at hj
   split at hj
   · rename_i hb
     have:=Nat.eq_of_beq_eq_true hb
     subst this
     rcases uM _ _ _ _ hj with hj|⟨k,hk,hj⟩
     · simp [jB] at hj
     simp only [jL,List.mem_map,List.mem_filter] at hk
     obtain ⟨e,⟨he,hb⟩,rfl⟩:=hk
     have he:e∈o.after:=by simpa using he
     rcases hj with rfl|hj
     · exact .UW ho he hb
     · exact .ZP ho he hb (h _ _ hj)
   · exact h i' j hj
 · exact h
theorem ancTab_ok {ops:Array Oper}:∀ (l:List Nat) {xU:List (Nat×Nat)},xV ops xU->xV ops (Fv ops l xU)
 |[],_,h=>h
 |i::r,_,h=>ancTab_ok r (ancStep_ok h i)
def Gm (ops:Array Oper) (l:List Nat):List (Nat×Nat):=Fv ops l []
theorem allAncs_ok (ops:Array Oper) (l:List Nat):xV ops (Gm ops l):=ancTab_ok l (fun i j h=>by simp [look,jB] at h)
def JP (g:Option (Nat×Bool)):List Nat:=
 match g with
 |some (t,_)=>[t]
 |none=>[]
def aF.reads (d:aF):List Nat:=JP d.o.guard++d.o.op.aQ
def aF.is (d:aF) (t:Nat):Bool:=
 match d.o.dst with
 |some n=>Nat.beq n t
 |none=>false
def nK (d:aF):Bool:=
 match d.o.op,d.o.guard with
 |.alloc _ _,none=>d.fO
 |_,_=>false
def Fw (Gn:List (Nat×Nat)) (d e:aF):Bool:=
 -- Fx writes Fi an WO one looks at,or wrote
 (match e.o.dst with
 |some n=>(!bK n d.reads&&!d.is n)||(e.fO&&jB d.ix (look Gn e.ix))
 |none=>true)&&
 -- Fi one looks at of EI UX own comes from an UY
 (match d.o.dst with
 |some n=>!bK n e.reads||jB d.ix (look Gn e.ix)
 |none=>true)&&
 -- behind a fO one all are XK Q1,but for new objects
 (!d.fO||jB d.ix (look Gn e.ix)||nK e)&&
 -- a fO one:Fi ZQ before it,and it abF not wait for,is pure or looked at again
 (!e.fO||d.fO||jB d.ix (look Gn e.ix)||xS d.o.op||bK d.ix e.re)&&
 (!bK d.ix e.re||(e.fO&&!d.fO))&&
 -- a new object OC Fx waits to make:Fx XL slot
 (!nK e||match e.o.dst with
 |some n=>!d.is n
 |none=>true)
def wM (Gn:List (Nat×Nat)):List aF->Bool
 |[]=>true
 |d::r=>r.all (Fw Gn d)&&wM Gn r
def JQ (P:Program) (N:Nat) (ops:Array Oper) (d:aF):Bool:=
 match ops[d.ix]? with
 |some o=>zZ P o.op d.o.op&&decide (d.o.dst=o.dst)&&Dj N o.dst&&gS ops o.guard d.o.guard&&(d.fO||eV d.o.op)&&
   (match d.o.dst with
   |some n=>!bK n d.reads
   |none=>true)
 |none=>false
def wN (ops:Array Oper):List Nat->List aF->Bool
 |_,[]=>true
 |seen,d::r=>(match ops[d.ix]? with
  |some o=>(jL o).all fun j=>bK j seen
  |none=>false)&&!bK d.ix seen&&wN ops (d.ix::seen) r
def tH (P:Program) (N:Nat) (ops:Array Oper) (ds:List aF):Bool:=
 P.follows .mixedOrders&&decide (ds.length=ops.size)&&ds.all (JQ P N ops)&&wM (Gm ops (ds.map (·.ix))) ds&&wN ops [] ds
theorem wO {fr:Fr} {t:Nat} {v:V} (h:fr.get t=v) (t':Nat):Fr.get ((t,v)::fr.gR [t]) t'=fr.get t':=by
 simp only [Fr.get]
 by_cases ht:t=t'
 · subst ht;rw [if_pos rfl,h]
 · rw [if_neg ht,Fr.cR]
   rw [if_neg]
   simp only [bG,List.mem_singleton]
   exact fun e=>ht e.symm
theorem fD (fr:Fr) (dst:Option Nat) (v:V) (t:Nat):(fr.next dst v []).get t=if dst=some t then v else fr.get t:=by
 rw [Fr.fD,if_neg (by simp [bK])]
theorem xW {A:aX} {β:Type} {g:Option (Nat×Bool)} {fr:Fr} {yes no:Fr->T β} {K:β->Prop} (h:(lL g fr yes no).wp A K):
 ∃ bH,(∀ t,bH.get t=fr.get t)/\((bW g fr=some true/\(yes bH).wp A K)\/(bW g fr=some false/\(no bH).wp A K)):=by
 unfold lL at h
 split at h
 · exact ⟨fr,fun _=>rfl,.inl ⟨rfl,h⟩⟩
 · rename_i t want
   split at h
   · rename_i x hx
     split at h
     · cases x with
       |true=>
        have h:=h.1 rfl
        rw [Fr.bL] at h
        exact ⟨_,wO hx,.inl ⟨by simp [bW,hx],h⟩⟩
       |false=>
        have h:=h.2 rfl
        rw [Fr.bL] at h
        exact ⟨_,wO hx,.inr ⟨by simp [bW,hx],h⟩⟩
     · cases x with
       |true=>
        have h:=h.1 rfl
        rw [Fr.bL] at h
        exact ⟨_,wO hx,.inr ⟨by simp [bW,hx],h⟩⟩
       |false=>
        have h:=h.2 rfl
        rw [Fr.bL] at h
        exact ⟨_,wO hx,.inl ⟨by simp [bW,hx],h⟩⟩
   · rename_i cs hx
     exact ⟨fr,fun _=>rfl,.inr ⟨by simp [bW,hx],h⟩⟩
   · exact h.elim
theorem k8 {g:Option (Nat×Bool)} {fr bH:Fr} (h:∀ t∈JP g,fr.get t=bH.get t):bW g fr=bW g bH:=by
 unfold bW
 cases g with
 |none=>rfl
 |some q=>
  obtain ⟨t,w⟩:=q
  have ht:fr.get t=bH.get t:=h t (.head _)
  simp only [ht]
theorem iT {N:Nat} {ops:Array Oper} {E:Env} {fr:Fr} {a:Act} {o:Oper} {g:Option (Nat×Bool)} (hg:gS ops o.guard g=true) (hf:aJ E N fr a) {b:Bool} (h:bW g fr=some b):
 Region.wanted o (yielded ops a.tmps)=b:=by
 unfold bW at h
 cases T9:o.guard with
 |none=>
  cases g with
  |none=>simp at h;subst h;simp [Region.wanted,T9]
  |some q=>rw [T9] at hg;simp [gS] at hg
 |some q=>
  obtain ⟨j,w⟩:=q
  cases g with
  |none=>rw [T9] at hg;simp [gS] at hg
  |some q=>
   obtain ⟨t,w'⟩:=q
   rw [T9] at hg
   simp only [gS,Bool.and_eq_true,decide_eq_true_eq] at hg
   obtain ⟨rfl,hg⟩:=hg
   split at hg
   case h_2=>cases hg
   rename_i oj UU
   simp only [decide_eq_true_eq] at hg
   simp only at h
   split at h
   · rename_i x hx
     simp only [Option.some.injEq] at h
     have hy:=AP hf UU hg hx
     subst h
     simp [Region.wanted,T9,hy]
   · rename_i cs hx
     simp only [Option.some.injEq] at h
     have hy:=AQ hf UU hg hx
     subst h
     simp [Region.wanted,T9,hy]
   · cases h
def Dm (A:aX) (d:aF) (fr:Fr) (st:St):Prop:=
 (bW d.o.guard fr=some true/\∃ v,(step d.o.op fr st).Yields A st v/\∀ n,d.o.dst=some n->fr.get n=v)\/
 (bW d.o.guard fr=some false/\∀ n,d.o.dst=some n->fr.get n=.bO [])
theorem Dm.congr {A:aX} {d:aF} {fr bH:Fr} {st:St} (h:∀ t,t∈d.reads\/d.o.dst=some t->fr.get t=bH.get t) (hv:Dm A d fr st):Dm A d bH st:=by
 have hg:bW d.o.guard fr=bW d.o.guard bH:=k8 fun t ht=>h t (.inl (List.mem_append_left _ ht))
 have hs:step d.o.op fr st=step d.o.op bH st:=fZ (fun t ht=>h t (.inl (List.mem_append_right _ ht))) st
 rcases hv with ⟨h1,v,h2,h3⟩|⟨h1,h2⟩
 · exact .inl ⟨hg▸h1,v,hs▸h2,fun n hn=>by rw [<-h n (.inr hn)];exact h3 n hn⟩
 · exact .inr ⟨hg▸h1,fun n hn=>by rw [<-h n (.inr hn)];exact h2 n hn⟩
theorem Dm.pure {A:aX} {d:aF} {fr:Fr} {st:St} (hp:xS d.o.op=true) (aR:St) (hv:Dm A d fr st):Dm A d fr aR:=by
 rcases hv with ⟨h1,v,h2,h3⟩|h
 · refine .inl ⟨h1,v,fun K hK=>AR hp A fr st aR K (h2 _ hK),h3⟩
 · exact .inr h
theorem iM {A:aX} {β:Type} {re:List Nat} {fr:Fr} {st:St} {k:T β} {K:β->Prop}:∀ {done:List aF},(∀ p∈done,bK p.ix re=true->eV p.o.op=true)->(recheck re done fr st k).wp A K->
 k.wp A K/\∀ p∈done,bK p.ix re=true->bW p.o.guard fr=some true->∃ v,(step p.o.op fr st).Yields A st v/\∀ n,p.o.dst=some n->fr.get n=v
 |[],_,h=>⟨h,fun p hp=>by cases hp⟩
 |p::ps,hq,h=>by
  have UZ:∀ q∈ps,bK q.ix re=true->eV q.o.op=true:=fun q hm=>hq q (.tail _ hm)
  simp only [recheck] at h
  split at h
  · rename_i hm
    split at h
    · rename_i hg
      rw [T.wp_bind] at h
      obtain ⟨v,hy,h⟩:=T.cU (qK (hq p (.head _) hm) fr st) h
      dsimp only at h
      have key:(∀ n,p.o.dst=some n->fr.get n=v)/\(recheck re ps fr st k).wp A K:=by
       split at h
       · rename_i n hn
         exact ⟨fun n' Q2=>(by rw [hn] at Q2;cases Q2;exact h.1),h.2⟩
       · rename_i hn
         exact ⟨fun n' Q2=>(by rw [hn] at Q2;cases Q2),h⟩
      obtain ⟨i1,i2⟩:=iM UZ key.2
      refine ⟨i1,fun q JR=>?_⟩
      rcases List.mem_cons.1 JR with rfl|JR
      · exact fun _ _=>⟨v,hy,key.1⟩
      · exact i2 q JR
    · rename_i hg
      obtain ⟨i1,i2⟩:=iM UZ h
      refine ⟨i1,fun q JR=>?_⟩
      rcases List.mem_cons.1 JR with rfl|JR
      · intro _ h3;rw [hg] at h3;cases h3
      · exact i2 q JR
    · exact h.elim
  · rename_i hm
    obtain ⟨i1,i2⟩:=iM UZ h
    refine ⟨i1,fun q JR=>?_⟩
    rcases List.mem_cons.1 JR with rfl|JR
    · intro h1;rw [hm] at h1;cases h1
    · exact i2 q JR
def Un (listed:Array Bool) (d:aF):Prop:=listed.getD d.ix true=false
structure r8 (S:Nat) (E:Env) (st:St) (w:World) (a:Act) (d:aF) (b:Nat):Prop where
 size:S<=b
 ptr:∀ n,d.o.dst=some n->a.tmps.getD n undef=.pointer (some ⟨b,0,none⟩)
 obj:∃ g zero cells t fz,d.o.op=.alloc g zero/\d.o.guard=none/\w.heap[b]? =some (.cells cells t fz)/\mV 1 fz cells.size/\cells.size=zero.length/\(∀ F,cP F zero cells)/\∀ (j:Nat) (x:Value),cells[j]? =some x->x.oneCell'=true
 apart:∀ k,st.live k->(E.μ k).aW≠b
 gJ:∀ o,E.I b o=none
theorem r8.step {S:Nat} {E E':Env} {st aR:St} {w w':World} {a a':Act} {d:aF} {b:Nat} (h:r8 S E st w a d b) (hx:Ext E st w E' aR w') (ha:∀ n,d.o.dst=some n->a'.tmps.getD n undef=a.tmps.getD n undef):r8 S E' aR w' a' d b:=by
 obtain ⟨g,zero,cells,t,fz,h1,h2,h3,h4⟩:=h.obj
 have hb:b<w.heap.size:=(Array.getElem?_eq_some_iff.1 h3).1
 refine ⟨h.size,fun n hn=>by rw [ha n hn];exact h.ptr n hn,⟨g,zero,cells,t,fz,h1,h2,by rw [hx.same b hb h.apart];exact h3,h4⟩,fun k hk=>?_,fun o=>?_⟩
 · by_cases he:E.has k
   · rw [hx.le.loc k he]
     exact h.apart k (hx.eF k hk he)
   · rcases hx.eQ k hk he with h5|⟨k0,h5,h6⟩
     · omega
     · rw [<-h6];exact h.apart k0 h5
 · cases hI:E'.I b o with
   |none=>rfl
   |some x=>
    rcases hx.eJ b o x hI with h5|h5|⟨k,h5,h6⟩
    · rw [h.gJ o] at h5;cases h5
    · omega
    · exact absurd h6 (h.apart k h5)
structure mW (S:Nat) (A:aX) (N:Nat) (K:Fr×St->Prop) (pre suf:List aF) (listed:Array Bool) (E:Env) (st:St) (w:World) (fr:Fr) (a:Act):Prop where
 ES:bC E st w
 size:a.tmps.size=N
 rel:∀ t,(∀ d∈pre,Un listed d->d.o.dst≠some t)->(∀ d∈suf,¬Un listed d->d.o.dst≠some t)->Rel E (fr.get t) (a.tmps.getD t undef)
 early:∃ B:Nat->Nat,(∀ d∈suf,¬Un listed d->r8 S E st w a d (B d.ix))/\∀ d∈suf,∀ e∈suf,¬Un listed d->¬Un listed e->B d.ix=B e.ix->d.ix=e.ix
 BB:∀ d∈pre,Un listed d->d.fO=false/\Dm A d fr st
 run:∃ done,(∀ x,x∈done->x∈pre)/\(∀ x,x∈pre->x∈done)/\(eN done suf fr st).wp A K
structure mD (ops:Array Oper) (d e:aF):Prop where
 w:∀ n,e.o.dst=some n->(n∉d.reads/\d.o.dst≠some n)\/(e.fO=true/\HD ops e.ix d.ix)
 r:∀ n,d.o.dst=some n->n∈e.reads->HD ops e.ix d.ix
 l:d.fO=true->HD ops e.ix d.ix\/nK e=true
 s:e.fO=true->d.fO=false->HD ops e.ix d.ix\/xS d.o.op=true\/bK d.ix e.re=true
 q:bK d.ix e.re=true->e.fO=true/\d.fO=false
 f:nK e=true->∀ n,e.o.dst=some n->d.o.dst≠some n
theorem Dp {ops:Array Oper} {Gn:List (Nat×Nat)} (ht:xV ops Gn) {d e:aF} (h:Fw Gn d e=true):mD ops d e:=by
 unfold Fw at h
 simp only [Bool.and_eq_true,Bool.or_eq_true,Bool.not_eq_true'] at h
 obtain ⟨⟨⟨⟨⟨h1,h2⟩,h3⟩,h4⟩,h5⟩,h6⟩:=h
 have hA:jB d.ix (look Gn e.ix)=true->HD ops e.ix d.ix:=fun hm=>ht _ _ hm
 refine ⟨fun n hn=>?_,fun n hn hm=>?_,fun hl=>?_,fun hl hd=>?_,fun hm=>?_,fun hf n hn hd=>?_⟩
 · rw [hn] at h1
   simp only [Bool.or_eq_true,Bool.and_eq_true,Bool.not_eq_true'] at h1
   rcases h1 with h1|h1
   · refine .inl ⟨fun hm=>?_,fun hd=>?_⟩
     · rw [bG.2 hm] at h1;exact absurd h1.1 (by simp)
     · have:=h1.2
       simp [aF.is,hd] at this
   · exact .inr ⟨h1.1,hA h1.2⟩
 · rw [hn] at h2
   simp only [Bool.or_eq_true,Bool.not_eq_true'] at h2
   rcases h2 with h2|h2
   · rw [bG.2 hm] at h2;cases h2
   · exact hA h2
 · rcases h3 with (h3|h3)|h3
   · rw [hl] at h3;cases h3
   · exact .inl (hA h3)
   · exact .inr h3
 · rcases h4 with (((h4|h4)|h4)|h4)|h4
   · rw [hl] at h4;cases h4
   · rw [hd] at h4;cases h4
   · exact .inl (hA h4)
   · exact .inr (.inl h4)
   · exact .inr (.inr h4)
 · rcases h5 with h5|h5
   · rw [hm] at h5;cases h5
   · exact h5
 · rcases h6 with h6|h6
   · rw [hf] at h6;cases h6
   · rw [hn] at h6
     simp [aF.is,hd] at h6
theorem mW.advance {S:Nat} {P:Program} {ops:Array Oper} {N:Nat} {K:Fr×St->Prop} {pre suf:List aF} {q:aF} {listed:Array Bool} {E:Env} {st:St} {w:World} {fr:Fr} {a:Act}
 (h:mW S (aB P) N K pre (q::suf) listed E st w fr a) (hp:∀ d∈pre,mD ops d q) (hu:Un listed q) (hq:q.fO=false) (hqq:eV q.o.op=true) (Q3:∀ n,q.o.dst=some n->n∉q.reads):
 ∃ bH,mW S (aB P) N K (pre++[q]) suf listed E st w bH a:=by
 obtain ⟨done,zW,C3,cJ⟩:=h.run
 simp only [eN] at cJ
 obtain ⟨AU,Dq,xY⟩:=xW cJ
 -- Fi is known of EI frame behind it
 have main:∀ (v:V),((bW q.o.guard fr=some true/\(step q.o.op fr st).Yields (aB P) st v)\/(bW q.o.guard fr=some false/\v=.bO []))->
  (eN (q::done) suf (AU.next q.o.dst v []) st).wp (aB P) K->∃ bH,mW S (aB P) N K (pre++[q]) suf listed E st w bH a:=by
  intro v hv hr
  have eK:∀ t,(AU.next q.o.dst v []).get t=if q.o.dst=some t then v else fr.get t:=fun t=>by rw [fD,Dq]
  obtain ⟨B,JS,Q4⟩:=h.early
  refine ⟨AU.next q.o.dst v [],h.ES,h.size,fun t ht Q5=>?_,⟨B,fun d hd=>JS d (.tail _ hd),fun d hd e he=>Q4 d (.tail _ hd) e (.tail _ he)⟩,fun d hd Ac=>?_,q::done,?_,?_,hr⟩
  · rw [eK]
    have cO:q.o.dst≠some t:=ht q (by simp) hu
    rw [if_neg cO]
    refine h.rel t (fun d hd=>ht d (List.mem_append_left _ hd)) fun d hd wP=>?_
    rcases List.mem_cons.1 hd with rfl|hd
    · exact absurd hu wP
    · exact Q5 d hd wP
  · rw [List.mem_append,List.mem_singleton] at hd
    rcases hd with hd|rfl
    · obtain ⟨h1,h2⟩:=h.BB d hd Ac
      refine ⟨h1,h2.congr fun t ht=>?_⟩
      rw [eK,if_neg]
      intro Sa
      have:=(hp d hd).w t Sa
      rcases this with this|this
      · rcases ht with ht|ht
        · exact this.1 ht
        · exact this.2 ht
      · rw [hq] at this;cases this.1
    · refine ⟨hq,?_⟩
      have hg:bW d.o.guard (AU.next d.o.dst v [])=bW d.o.guard fr:=k8 fun t ht=>by
       rw [eK,if_neg]
       intro Sa
       exact Q3 t Sa (List.mem_append_left _ ht)
      have hs:step d.o.op (AU.next d.o.dst v []) st=step d.o.op fr st:=fZ (fun t ht=>by
       rw [eK,if_neg]
       intro Sa
       exact Q3 t Sa (List.mem_append_right _ ht)) st
      have Dr:∀ n,d.o.dst=some n->(AU.next d.o.dst v []).get n=v:=fun n hn=>by rw [eK,if_pos hn]
      rcases hv with ⟨h1,h2⟩|⟨h1,rfl⟩
      · exact .inl ⟨by rw [hg];exact h1,v,by rw [hs];exact h2,Dr⟩
      · exact .inr ⟨by rw [hg];exact h1,Dr⟩
  · intro x hx
    rcases List.mem_cons.1 hx with rfl|hx
    · simp
    · simp [zW x hx]
  · intro x hx
    rw [List.mem_append,List.mem_singleton] at hx
    rcases hx with hx|rfl
    · exact .tail _ (C3 x hx)
    · exact .head _
 rcases xY with ⟨hg,hw⟩|⟨hg,hw⟩
 · rw [T.wp_bind] at hw
   have hs:step q.o.op AU st=step q.o.op fr st:=fZ (fun t _=>Dq t) st
   rw [hs] at hw
   obtain ⟨v,hy,hw⟩:=T.cU (qK hqq fr st) hw
   dsimp only at hw
   rw [Fr.bJ] at hw
   have XM:∀ p∈done,bK p.ix q.re=true->eV p.o.op=true:=fun p OO hm=>by
    have:=((hp p (zW p OO)).q hm).1
    rw [hq] at this;cases this
   exact main v (.inl ⟨hg,hy⟩) (iM XM hw).1
 · rw [Fr.bJ] at hw
   exact main (.bO []) (.inr ⟨hg,rfl⟩) hw
def nL (listed:Array Bool):List aF->List Nat
 |[]=>[]
 |d::r=>match listed.getD d.ix true,d.o.dst with
  |false,some n=>n::nL listed r
  |_,_=>nL listed r
theorem qL {listed:Array Bool} {n:Nat}:∀ {l:List aF},n∈nL listed l↔∃ d∈l,Un listed d/\d.o.dst=some n
 |[]=>by simp [nL]
 |d::r=>by
  have ih:=qL (listed:=listed) (n:=n) (l:=r)
  cases h1:listed.getD d.ix true with
  |true=>
   have hu:¬Un listed d:=by simp only [Un];rw [h1];simp
   simp only [nL,h1,ih]
   constructor
   · rintro ⟨e,he,h⟩;exact ⟨e,.tail _ he,h⟩
   · rintro ⟨e,he,h⟩
     rcases List.mem_cons.1 he with rfl|he
     · exact absurd h.1 hu
     · exact ⟨e,he,h⟩
  |false=>
   have hu:Un listed d:=h1
   cases h2:d.o.dst with
   |none=>
    simp only [nL,h1,h2,ih]
    constructor
    · rintro ⟨e,he,h⟩;exact ⟨e,.tail _ he,h⟩
    · rintro ⟨e,he,h⟩
      rcases List.mem_cons.1 he with rfl|he
      · rw [h2] at h;cases h.2
      · exact ⟨e,he,h⟩
   |some m=>
    simp only [nL,h1,h2,List.mem_cons,ih]
    constructor
    · rintro (rfl|⟨e,he,h⟩)
      · exact ⟨d,.inl rfl,hu,h2⟩
      · exact ⟨e,.inr he,h⟩
    · rintro ⟨e,he|he,h⟩
      · subst he;rw [h2] at h;left;exact (Option.some.inj h.2).symm
      · exact .inr ⟨e,he,h⟩
def nM (listed:Array Bool):List aF->List Nat
 |[]=>[]
 |d::r=>match listed.getD d.ix true,d.o.dst with
  |true,some n=>n::nM listed r
  |_,_=>nM listed r
theorem qM {listed:Array Bool} {n:Nat}:∀ {l:List aF},n∈nM listed l↔∃ d∈l,¬Un listed d/\d.o.dst=some n
 |[]=>by simp [nM]
 |d::r=>by
  have ih:=qM (listed:=listed) (n:=n) (l:=r)
  cases h1:listed.getD d.ix true with
  |false=>
   have hu:Un listed d:=h1
   simp only [nM,h1,ih]
   constructor
   · rintro ⟨e,he,h⟩;exact ⟨e,.tail _ he,h⟩
   · rintro ⟨e,he,h⟩
     rcases List.mem_cons.1 he with rfl|he
     · exact absurd hu h.1
     · exact ⟨e,he,h⟩
  |true=>
   have hu:¬Un listed d:=by simp only [Un];rw [h1];simp
   cases h2:d.o.dst with
   |none=>
    simp only [nM,h1,h2,ih]
    constructor
    · rintro ⟨e,he,h⟩;exact ⟨e,.tail _ he,h⟩
    · rintro ⟨e,he,h⟩
      rcases List.mem_cons.1 he with rfl|he
      · rw [h2] at h;cases h.2
      · exact ⟨e,he,h⟩
   |some m=>
    simp only [nM,h1,h2,List.mem_cons,ih]
    constructor
    · rintro (rfl|⟨e,he,h⟩)
      · exact ⟨d,.inl rfl,hu,h2⟩
      · exact ⟨e,.inr he,h⟩
    · rintro ⟨e,he|he,h⟩
      · subst he;rw [h2] at h;left;exact (Option.some.inj h.2).symm
      · exact .inr ⟨e,he,h⟩
def pB (listed:Array Bool) (pre suf:List aF):List Nat:=nL listed pre++nM listed suf
theorem mW.frame {S:Nat} {A:aX} {N:Nat} {K:Fr×St->Prop} {pre suf:List aF} {listed:Array Bool} {E:Env} {st:St} {w:World} {fr:Fr} {a:Act} (h:mW S A N K pre suf listed E st w fr a):
 aJ E N (fr.gR (pB listed pre suf)) a:=by
 refine ⟨h.size,fun t=>?_⟩
 rw [Fr.cR]
 split
 · exact .a8 _
 · rename_i hm
   refine h.rel t (fun d hd hu Dr=>hm (bG.2 (List.mem_append.2 (.inl (qL.2 ⟨d,hd,hu,Dr⟩))))) fun d hd hu Dr=>hm (bG.2 (List.mem_append.2 (.inr (qM.2 ⟨d,hd,hu,Dr⟩))))
structure JT (P:Program) (N:Nat) (ops:Array Oper) (d:aF) (o:Oper):Prop where
 at_:ops[d.ix]? =some o
 op:zZ P o.op d.o.op=true
 dst:d.o.dst=o.dst
 lt:∀ n,o.dst=some n->n<N
 gd:gS ops o.guard d.o.guard=true
 quiet:d.fO=false->eV d.o.op=true
 self:∀ n,d.o.dst=some n->n∉d.reads
structure BC (P:Program) (N:Nat) (ops:Array Oper) (ds:List aF):Prop where
 md:P.follows .mixedOrders=true
 one:∀ d∈ds,∃ o,JT P N ops d o
 pair:ds.Pairwise (mD ops)
 U0:∀ pre d suf,ds=pre++d::suf->∀ o,ops[d.ix]? =some o->∀ e∈o.after,Region.binds .any e=true->∃ p∈pre,p.ix=e.on
 nodup:(ds.map (·.ix)).Nodup
 all:∀ i,i<ops.size->∃ d∈ds,d.ix=i
theorem qN {ops:Array Oper} {listed:Array Bool} (l7:∀ i o,listed.getD i false=true->ops[i]? =some o->∀ e∈o.after,Region.binds .any e=true->listed.getD e.on false=true)
 {i j:Nat} (h:HD ops i j) (hr:∀ o,ops[i]? =some o->∀ e∈o.after,Region.binds .any e=true->listed.getD e.on false=true):listed.getD j false=true:=by
 induction h with
 |UW ho he hb=>exact hr _ ho _ he hb
 |ZP ho he hb _ ih=>exact ih fun o' Of=>l7 _ o' (hr _ ho _ he hb) Of
theorem qO {listed:Array Bool} {d:aF} (h:Un listed d):listed.getD d.ix false=false:=by
 simp only [Un,Array.getD_eq_getD_getElem?] at h ⊢
 cases hq:listed[d.ix]? with
 |none=>rw [hq] at h;simp at h
 |some b=>rw [hq] at h;simpa using h
theorem bC.JU {E:Env} {st:St} {w:World} (h:bC E st w) (g:Bool) (L:Loc) (o:Obj) (ho:Holds ((E.push g L fun _ _=>none).at (E.aE g)) w L o) (ZR:∀ k,st.live k->(E.μ k).aW≠L.aW) (him:∀ j,E.I L.aW j=none):
 bC (E.push g L fun _ _=>none) (st.push g o) w:=by
 have hle:E.Le (E.push g L fun _ _=>none):=Env.kK _ _ _ _
 have eK:∀ k,(st.push g o).get k=if k=E.aE g then some o else st.get k:=fun k=>by rw [St.gL,h.aE]
 have fL:∀ k,(st.push g o).live k->k≠E.aE g->st.live k:=by
  rintro k ⟨x,hx⟩ cO
  rw [eK,if_neg cO] at hx
  exact ⟨x,hx⟩
 have EH:(E.push g L fun _ _=>none).μ (E.aE g)=L:=Env.dP _ _ _ _
 have hI:∀ b j,(E.push g L fun _ _=>none).I b j=E.I b j:=fun b j=>by
  simp only [Env.push]
  cases E.I b j<;>rfl
 refine ⟨?_,?_,fun k hk=>?_,fun b j x hx=>?_,fun k x hk=>?_,fun k k' hk jG cO=>?_,fun k hk j Uq QP=>?_⟩
 · have:=h.ng;cases g<;>simp [St.push,aA.push,Env.push,this]
 · have:=h.nl;cases g<;>simp [St.push,aA.push,Env.push,this]
 · by_cases cO:k=E.aE g
   · subst cO;exact Env.cW _ _ _ _
   · exact hle.has (h.g9 k (fL k hk cO))
 · rw [hI] at hx
   exact h.gJ b j x hx
 · by_cases cO:k=E.aE g
   · subst cO
     rw [eK,if_pos rfl] at hk
     cases hk
     rw [EH];exact ho
   · have hl:=fL k ⟨x,hk⟩ cO
     rw [eK,if_neg cO] at hk
     rw [hle.loc k (h.g9 k hl)]
     exact (h.obj k x hk).lM (Env.gK hle k) rfl
 · by_cases h1:k=E.aE g
   · subst h1
     have h2:k'≠E.aE g:=fun e=>cO e.symm
     have hl:=fL k' jG h2
     rw [EH,hle.loc k' (h.g9 k' hl)]
     exact fun e=>ZR k' hl e.symm
   · have hl:=fL k hk h1
     by_cases h2:k'=E.aE g
     · subst h2
       rw [EH,hle.loc k (h.g9 k hl)]
       exact ZR k hl
     · have qF:=fL k' jG h2
       rw [hle.loc k (h.g9 k hl),hle.loc k' (h.g9 k' qF)]
       exact h.sep k k' hl qF cO
 · rw [hI]
   by_cases h1:k=E.aE g
   · subst h1
     rw [EH] at*
     exact him j
   · have hl:=fL k hk h1
     rw [hle.loc k (h.g9 k hl)] at*
     exact h.own k hl j Uq QP
theorem Ext.JU {E0 E:Env} {st0 st:St} {w0 w:World} (hx:Ext E0 st0 w0 E st w) (h:bC E st w) (g:Bool) (L:Loc) (o:Obj) (hb:w0.heap.size<=L.aW):Ext E0 st0 w0 (E.push g L fun _ _=>none) (st.push g o) w:=by
 have hle:E.Le (E.push g L fun _ _=>none):=Env.kK _ _ _ _
 have eK:∀ k,(st.push g o).get k=if k=E.aE g then some o else st.get k:=fun k=>by rw [St.gL,h.aE]
 have fL:∀ k,(st.push g o).live k->k≠E.aE g->st.live k:=by
  rintro k ⟨x,hx⟩ cO
  rw [eK,if_neg cO] at hx
  exact ⟨x,hx⟩
 have hI:∀ b j,(E.push g L fun _ _=>none).I b j=E.I b j:=fun b j=>by
  simp only [Env.push]
  cases E.I b j<;>rfl
 refine ⟨hx.le.trans hle,hx.size,fun b j x hj=>?_,fun k hk he=>?_,fun k hk he=>?_,hx.same,hx.os,hx.out,hx.tape⟩
 · rw [hI] at hj
   exact hx.eJ b j x hj
 · have cO:k≠E.aE g:=fun e=>E.gM g (e▸hx.le.has he)
   exact hx.eF k (fL k hk cO) he
 · by_cases h1:k=E.aE g
   · subst h1
     rw [Env.dP]
     exact .inl hb
   · have hl:=fL k hk h1
     rw [hle.loc k (h.g9 k hl)]
     exact hx.eQ k hl he
theorem bC.spare {E:Env} {st:St} {w w':World} (h:bC E st w) {ob:Go.Obj} (hh:w'.heap=w.heap.push ob) (ho:kO w w'):bC E st w'/\Ext E st w E st w':=by
 have hold:∀ b,b<w.heap.size->w'.heap[b]? =w.heap[b]? :=fun b hb=>by rw [hh,Array.getElem?_push,if_neg (by omega)]
 have Oz:∀ b j x,E.I b j=some x->b<w.heap.size:=by
  intro b j x hx
  have:=h.gJ b j x hx
  simp only [aT] at this
  rcases Nat.lt_or_ge b w.heap.size with hl|hl
  · exact hl
  · simp [Array.getElem?_eq_none hl] at this
 refine ⟨⟨h.ng,h.nl,h.g9,fun b j x hx=>?_,fun k o hk=>(h.obj k o hk).lM (Env.gK (.refl E) k) (hold _ (h.lt ⟨o,hk⟩)),h.sep,h.own⟩,
  ⟨.refl E,by rw [hh];simp,fun _ _ _ h=>.inl h,fun _ h _=>h,fun k h _=>.inr ⟨k,h,rfl⟩,fun b hb _=>hold b hb,ho.os,ho.out,ho.tape⟩⟩
 have:=h.gJ b j x hx
 simp only [aT,hold b (Oz b j x hx)] at*
 exact this
theorem mW.catch {S:Nat} {P:Program} {ops:Array Oper} {N:Nat} {K:Fr×St->Prop} {pre suf:List aF} {q:aF} {listed:Array Bool} {E:Env} {st:St} {w:World} {fr:Fr} {a:Act}
 (h:mW S (aB P) N K pre (q::suf) listed E st w fr a) (hp:∀ d∈pre,mD ops d q) (Ua:∀ e∈suf,e.ix≠q.ix) (hpo:∀ d∈pre,d.fO=false->eV d.o.op=true) (hl:q.fO=true) (wP:¬Un listed q)
 (l7:∀ d∈pre,Un listed d->¬HD ops q.ix d.ix):
 ∃ bH E' aR,mW S (aB P) N K (pre++[q]) suf listed E' aR w bH a/\∀ (E0:Env) (st0:St) (w0:World),w0.heap.size=S->Ext E0 st0 w0 E st w->Ext E0 st0 w0 E' aR w:=by
 obtain ⟨B,JS,Q4⟩:=h.early
 have hE:=JS q (.head _) wP
 obtain ⟨g,zero,cells,t,fz,Bw,WQ,U1,EJ,gH,U2,gO⟩:=hE.obj
 obtain ⟨done,zW,C3,cJ⟩:=h.run
 simp only [eN] at cJ
 obtain ⟨AU,Dq,xY⟩:=xW cJ
 replace xY:=xY.resolve_right fun hc=>by
  have hg:=hc.1
  rw [WQ] at hg
  simp [bW] at hg
 have hw:=xY.2
 rw [T.wp_bind,Bw] at hw
 simp only [step,T.wp] at hw
 rw [Fr.bJ] at hw
 have xZ:∀ p∈done,bK p.ix q.re=true->eV p.o.op=true:=fun p OO hm=>hpo p (zW p OO) ((hp p (zW p OO)).q hm).2
 obtain ⟨EM,Hp⟩:=iM xZ hw
 have hL:∀ F:Env,Holds F w ⟨B q.ix,0,cells.size⟩ (.cs zero):=fun F=>⟨rfl,cells,t,fz,U1,EJ,by simp [gH],Nat.le_refl _,fun j v hj=>by
  obtain ⟨x,hx,hr⟩:=(U2 F).get hj
  exact ⟨x,by simpa using hx,hr,gO j x hx⟩⟩
 have s1:=h.ES.JU g ⟨B q.ix,0,cells.size⟩ (.cs zero) (hL _) hE.apart hE.gJ
 have hle:E.Le (E.push g ⟨B q.ix,0,cells.size⟩ fun _ _=>none):=Env.kK _ _ _ _
 have eK:∀ t,(AU.next q.o.dst (.p (st.aE g) 0) []).get t=if q.o.dst=some t then .p (st.aE g) 0 else fr.get t:=fun t=>by rw [fD,Dq]
 have Gp:∀ (e:aF),e∈pre->Un listed e->∀ t,t∈e.reads\/e.o.dst=some t->fr.get t=(AU.next q.o.dst (.p (st.aE g) 0) []).get t:=by
  intro e he Fy t ht
  rw [eK,if_neg]
  intro XN
  rcases (hp e he).w t XN with this|this
  · rcases ht with ht|ht
    · exact this.1 ht
    · exact this.2 ht
  · exact l7 e he Fy this.2
 have hI:∀ b j,(E.push g ⟨B q.ix,0,cells.size⟩ fun _ _=>none).I b j=E.I b j:=fun b j=>by
  simp only [Env.push]
  cases E.I b j<;>rfl
 refine ⟨_,_,_,⟨s1,h.size,fun t ht Q5=>?_,⟨B,fun d hd hu=>?_,fun d hd e he=>Q4 d (.tail _ hd) e (.tail _ he)⟩,fun e he hu=>?_,q::done,?_,?_,EM⟩,fun E0 st0 w0 hS hx=>hx.JU h.ES g _ _ (by rw [hS];exact hE.size)⟩
 · rw [eK]
   by_cases Gq:q.o.dst=some t
   · rw [if_pos Gq,hE.ptr t Gq]
     have:=Rel.p (E:=E.push g ⟨B q.ix,0,cells.size⟩ fun _ _=>none) (st.aE g) 0 (by rw [h.ES.aE];exact Env.cW _ _ _ _)
     rw [h.ES.aE,Env.dP] at this
     rw [h.ES.aE]
     exact this
   · rw [if_neg Gq]
     refine (h.rel t (fun d hd=>ht d (List.mem_append_left _ hd)) fun d hd hu=>?_).mono hle
     rcases List.mem_cons.1 hd with rfl|hd
     · exact Gq
     · exact Q5 d hd hu
 · have Ub:=JS d (.tail _ hd) hu
   refine ⟨Ub.size,Ub.ptr,Ub.obj,fun k hk=>?_,fun o=>by rw [hI];exact Ub.gJ o⟩
   by_cases h1:k=E.aE g
   · subst h1
     rw [Env.dP]
     intro e
     exact Ua d hd (Q4 q (.head _) d (.tail _ hd) wP hu e).symm
   · obtain ⟨x,hx⟩:=hk
     rw [St.gL,h.ES.aE,if_neg h1] at hx
     rw [hle.loc k (h.ES.g9 k ⟨x,hx⟩)]
     exact Ub.apart k ⟨x,hx⟩
 · rw [List.mem_append,List.mem_singleton] at he
   rcases he with he|rfl
   · obtain ⟨ZS,hv2⟩:=h.BB e he hu
     refine ⟨ZS,?_⟩
     have RO:=hv2.congr (Gp e he hu)
     rcases (hp e he).s hl ZS with hA|hA|hA
     · exact absurd hA (l7 e he hu)
     · exact RO.pure hA _
     · rcases RO with ⟨g1,_⟩|g
       · exact .inl ⟨g1,Hp e (C3 e he) hA g1⟩
       · exact .inr g
   · exact absurd hu wP
 · intro y hy
   rcases List.mem_cons.1 hy with rfl|hy
   · simp
   · simp [zW y hy]
 · intro y hy
   rw [List.mem_append,List.mem_singleton] at hy
   rcases hy with hy|rfl
   · exact .tail _ (C3 y hy)
   · exact .head _
theorem mW.normal {P:Program} {ops:Array Oper} {N:Nat} {K:Fr×St->Prop} {listed:Array Bool} {E0:Env} {st0:St} {w0 w:World} {a:Act} (qP:listed.size=ops.size) (l7:∀ i o,listed.getD i false=true->ops[i]? =some o->∀ e∈o.after,Region.binds .any e=true->listed.getD e.on false=true):∀ {suf pre:List aF} {fr:Fr} {E:Env} {st:St},
 mW w0.heap.size (aB P) N K pre suf listed E st w fr a->Ext E0 st0 w0 E st w->(pre++suf).Pairwise (mD ops)->((pre++suf).map (·.ix)).Nodup->(∀ d∈pre++suf,∃ o,JT P N ops d o)->
 ∃ Ds BD bH E' aR,Ds++BD=pre++suf/\mW w0.heap.size (aB P) N K Ds BD listed E' aR w bH a/\Ext E0 st0 w0 E' aR w/\∀ d r,BD=d::r->d.fO=true/\Un listed d
 |[],pre,fr,E,st,h,hx,_,_,_=>⟨pre,[],fr,E,st,rfl,h,hx,fun d r hd=>by cases hd⟩
 |q::suf,pre,fr,E,st,h,hx,hp,hn,ho=>by
  have e:pre++[q]++suf=pre++q::suf:=by simp
  have WE:∀ d∈pre,mD ops d q:=fun d hd=>(List.pairwise_append.1 hp).2.2 d hd q (.head _)
  obtain ⟨o,hq⟩:=ho q (by simp)
  by_cases hu:Un listed q
  · cases hl:q.fO with
    |true=>exact ⟨pre,q::suf,fr,E,st,rfl,h,hx,fun d r hd=>by cases hd;exact ⟨hl,hu⟩⟩
    |false=>
     obtain ⟨bH,h'⟩:=h.advance WE hu hl (hq.quiet hl) hq.self
     obtain ⟨Ds,BD,Oq,E2,Gl,e2,h2,h3,h4⟩:=mW.normal qP l7 h' hx (by rw [e];exact hp) (by rw [e];exact hn) (by rw [e];exact ho)
     exact ⟨Ds,BD,Oq,E2,Gl,e2.trans e,h2,h3,h4⟩
  · have hl:q.fO=true:=by
     cases hl:q.fO with
     |true=>rfl
     |false=>
      obtain ⟨B,JS,_⟩:=h.early
      obtain ⟨g,zero,cells,t,fz,Bw,_⟩:=(JS q (.head _) hu).obj
      have:=hq.quiet hl
      rw [Bw] at this
      cases this
    have Sa:listed.getD q.ix false=true:=by
     have cQ:=(Array.getElem?_eq_some_iff.1 hq.at_).1
     rw [<-qP] at cQ
     simp only [Un,Array.getD_eq_getD_getElem?,Array.getElem?_eq_getElem cQ] at hu ⊢
     simpa using hu
    obtain ⟨bH,E',aR,h',WD⟩:=h.catch WE (fun e he lO=>by
     rw [List.map_append,List.nodup_append] at hn
     have:=hn.2.1
     rw [List.map_cons,List.nodup_cons] at this
     exact this.1 (lO▸List.mem_map_of_mem he)) (fun d hd ZT=>by
     obtain ⟨od,Uc⟩:=ho d (List.mem_append_left _ hd)
     exact Uc.quiet ZT) hl hu (fun d hd RL hA=>by
     have:=qN l7 hA (fun o1 E3=>l7 _ o1 Sa E3)
     rw [qO RL] at this
     cases this)
    obtain ⟨Ds,BD,Oq,E2,Gl,e2,h2,h3,h4⟩:=mW.normal qP l7 h' (WD E0 st0 w0 rfl hx) (by rw [e];exact hp) (by rw [e];exact hn) (by rw [e];exact ho)
    exact ⟨Ds,BD,Oq,E2,Gl,e2.trans e,h2,h3,h4⟩
section
variable {P:Program} {ops:Array Oper} {N:Nat} {K:Fr×St->Prop} {Q:Exit->Act->World->Prop}
theorem JV {listed:Array Bool} {d e:aF} (h:Un (listed.setIfInBounds d.ix true) e) (hd:d.ix<listed.size):Un listed e/\e.ix≠d.ix:=by
 simp only [Un,Array.getD_eq_getD_getElem?] at h ⊢
 by_cases hi:d.ix=e.ix
 · rw [hi] at h hd
   simp [hd] at h
 · rw [Array.getElem?_setIfInBounds_ne hi] at h
   exact ⟨h,fun e=>hi e.symm⟩
theorem wQ {listed:Array Bool} {d e:aF} (h:Un listed e) (hi:e.ix≠d.ix):Un (listed.setIfInBounds d.ix true) e:=by
 simp only [Un,Array.getD_eq_getD_getElem?] at h ⊢
 rw [Array.getElem?_setIfInBounds_ne (fun e=>hi e.symm)]
 exact h
theorem j2 {a:Act} {dst:Option Nat} {x:Value} {t:Nat} (h:dst≠some t):(a.put dst x).tmps.getD t undef=a.tmps.getD t undef:=by
 cases dst with
 |none=>rfl
 |some d=>
  have:d≠t:=fun e=>h (by rw [e])
  simp only [Act.put,Array.getD_eq_getD_getElem?]
  rw [Array.getElem?_setIfInBounds_ne this]
theorem fT {a:Act} {d:Nat} {x:Value} (h:d<a.tmps.size):(a.put (some d) x).tmps.getD d undef=x:=by
 simp [Act.put,Array.getD_eq_getD_getElem?,h]
theorem j3 (a:Act) (dst:Option Nat) (x:Value):(a.put dst x).tmps.size=a.tmps.size:=by cases dst<;>simp [Act.put]
end
section
variable {P:Program} {ops:Array Oper} {N:Nat} {K:Fr×St->Prop} {Q:Exit->Act->World->Prop}
structure JW (S:Nat) (P:Program) (N:Nat) (K:Fr×St->Prop) (ds:List aF) (listed:Array Bool) (E:Env) (st:St) (w:World) (a:Act) (a':Act) (w':World):Prop where
 ex:∃ pre suf bH aR E',pre++suf=ds/\mW S (aB P) N K pre suf listed E' aR w' bH a'/\Ext E st w E' aR w'/\a'.defers=a.defers
theorem uN {d:aF} (h:nK d=true):∃ g zero,d.o.op=.alloc g zero/\d.o.guard=none/\d.fO=true:=by
 unfold nK at h
 split at h
 · rename_i g zero h1 h2
   exact ⟨g,zero,h1,h2,h⟩
 · cases h
theorem BE {d:aF} (h:nK d=true):d.reads=[]:=by
 obtain ⟨g,zero,h1,h2,_⟩:=uN h
 unfold aF.reads
 rw [h1,h2]
 rfl
theorem HE {S:Nat} {ds pre suf:List aF} {listed:Array Bool} {E:Env} {st:St} {w:World} {fr:Fr} {a:Act} (hd:BC P N ops ds) (fX:pre++suf=ds) (h:mW S (aB P) N K pre suf listed E st w fr a)
 (hS:S<=w.heap.size) (p6:∀ d r,suf=d::r->d.fO=true/\Un listed d) (qP:listed.size=ops.size)
 (l7:∀ i o,listed.getD i false=true->ops[i]? =some o->∀ e∈o.after,Region.binds .any e=true->listed.getD e.on false=true)
 {i:Nat} (hr:i∈Region.ready .any ops listed):wpOp P ops Q i (JW S P N K ds (listed.setIfInBounds i true) E st w a) a w:=by
 obtain ⟨Ac,o,ho,x6⟩:=mem_ready.1 hr
 have cQ:i<ops.size:=(Array.getElem?_eq_some_iff.1 ho).1
 obtain ⟨d,AV,rfl⟩:=hd.all i cQ
 obtain ⟨o',gO⟩:=hd.one d AV
 have:o'=o:=by have:=gO.at_;rw [ho] at this;exact (Option.some.inj this).symm
 subst this
 have JX:∀ j,HD ops d.ix j->listed.getD j false=true:=fun j hj=>qN l7 hj (fun o1 h1=>by rw [ho] at h1;cases h1;exact x6)
 -- Fi it looks at is there
 have U3:d∈pre\/d∈suf:=by rw [<-fX] at AV;exact List.mem_append.1 AV
 have Q6:=hd.pair
 rw [<-fX] at Q6
 have Dt:=List.pairwise_append.1 Q6
 have JY:∀ e∈ds,¬Un listed e->listed.getD e.ix false=true:=by
  intro e he wP
  obtain ⟨oe,hoe⟩:=hd.one e he
  have OP:=(Array.getElem?_eq_some_iff.1 hoe.at_).1
  rw [<-qP] at OP
  simp only [Un,Array.getD_eq_getD_getElem?,Array.getElem?_eq_getElem OP] at wP ⊢
  simpa using wP
 -- who ZQ made ahead of XK OQ waits for Fx OC is still to abM
 have BF:∀ e∈suf,¬Un listed e->¬HD ops e.ix d.ix:=by
  intro e he wP hA
  have:=qN l7 hA (fun o1 E3=>l7 _ o1 (JY e (by rw [<-fX];exact List.mem_append_right _ he) wP) E3)
  rw [qO Ac] at this
  cases this
 have Sb:∀ n∈d.reads,n∉pB listed pre suf:=by
  intro n hn hm
  rcases List.mem_append.1 hm with hm|hm
  case inr=>
   obtain ⟨e,WR,wP,JH⟩:=qM.1 hm
   have he:e∈ds:=by rw [<-fX];exact List.mem_append_right _ WR
   have hw:mD ops d e->False:=fun hpr=>by
    rcases hpr.w n JH with h1|h1
    · exact h1.1 hn
    · exact BF e WR wP h1.2
   rcases U3 with hp|hp
   · exact hw (Dt.2.2 d hp e WR)
   · cases suf with
     |nil=>cases hp
     |cons L r=>
      have hL:=p6 L r rfl
      rcases List.mem_cons.1 WR with rfl|WS
      · exact wP hL.2
      rcases List.mem_cons.1 hp with rfl|hp
      · exact hw ((List.pairwise_cons.1 Dt.2.1).1 e WS)
      · rcases ((List.pairwise_cons.1 Dt.2.1).1 d hp).l hL.1 with hA|hF
        · have h1:=JX _ hA
          rw [qO hL.2] at h1;cases h1
        · rw [BE hF] at hn
          cases hn
  obtain ⟨e,ZU,Fy,JH⟩:=qL.1 hm
  have he:e∈ds:=by rw [<-fX];exact List.mem_append_left _ ZU
  by_cases ZV:e=d
  · subst ZV;exact gO.self n JH hn
  · rcases List.pairwise_iff_getElem.1 hd.pair with Q6
    obtain ⟨x,hx,JZ⟩:=List.getElem_of_mem he
    obtain ⟨y,hy,J0⟩:=List.getElem_of_mem AV
    rcases Nat.lt_trichotomy x y with Du|Du|Du
    · have:=Q6 x y hx hy Du
      rw [JZ,J0] at this
      have h1:=JX _ (this.r n JH hn)
      rw [qO Fy] at h1;cases h1
    · subst Du;exact ZV (JZ.symm.trans J0)
    · have:=Q6 y x hy hx Du
      rw [JZ,J0] at this
      rcases this.w n JH with h1|h1
      · exact h1.1 hn
      · rw [(h.BB e ZU Fy).1] at h1;cases h1.1
 have pS:=h.frame
 have kL:∀ t∈d.reads,(fr.gR (pB listed pre suf)).get t=fr.get t:=fun t ht=>by
  rw [Fr.cR,if_neg (fun hm=>Sb t ht (bG.1 hm))]
 have hgate:bW d.o.guard (fr.gR (pB listed pre suf))=bW d.o.guard fr:=k8 fun t ht=>kL t (List.mem_append_left _ ht)
 have Q7:∀ s,step d.o.op (fr.gR (pB listed pre suf)) s=step d.o.op fr s:=fun s=>fZ (fun t ht=>kL t (List.mem_append_right _ ht)) s
 have RL:Un listed d:=Ac
 have J1:∀ e∈ds,e.ix=d.ix->e=d:=by
  intro e he lO
  obtain ⟨x,hx,JZ⟩:=List.getElem_of_mem he
  obtain ⟨y,hy,J0⟩:=List.getElem_of_mem AV
  have Q6:=List.pairwise_iff_getElem.1 (List.pairwise_map.1 hd.nodup)
  rcases Nat.lt_trichotomy x y with Du|Du|Du
  · have:=Q6 x y hx hy Du
    rw [JZ,J0] at this
    exact absurd lO this
  · subst Du
    exact JZ.symm.trans J0
  · have:=Q6 y x hy hx Du
    rw [JZ,J0] at this
    exact absurd lO.symm this
 have U4:∀ n,d.o.dst=some n->n<a.tmps.size:=fun n hn=>by rw [h.size];exact gO.lt n (gO.dst▸hn)
 -- EI aQ behind it
 have U5:∀ e,¬Un listed e->¬Un (listed.setIfInBounds d.ix true) e:=fun e he hu=>he (JV hu (by rw [qP];exact cQ)).1
 have iY:∀ {E':Env} {v:V} {x:Value} {bH:Fr} {pp sf:List aF},(∀ e∈pre,e∈pp)->(∀ e∈suf,¬Un listed e->e∈sf)->E.Le E'->Rel E' v x->(∀ t,bH.get t=if d.o.dst=some t then v else fr.get t)->
  ∀ t,(∀ e∈pp,Un (listed.setIfInBounds d.ix true) e->e.o.dst≠some t)->(∀ e∈sf,¬Un (listed.setIfInBounds d.ix true) e->e.o.dst≠some t)->Rel E' (bH.get t) ((a.put o'.dst x).tmps.getD t undef):=by
  intro E' v x bH pp sf WT Sc hle s6 eK t ht Q5
  rw [eK,<-gO.dst]
  by_cases Gq:d.o.dst=some t
  · rw [if_pos Gq,Gq,fT (U4 t Gq)]
    exact s6
  · rw [if_neg Gq,j2 Gq]
    refine (h.rel t (fun e he Fy EP=>?_) fun e he Fy=>Q5 e (Sc e he Fy) (U5 e Fy)).mono hle
    have XO:e∈ds:=by rw [<-fX];exact List.mem_append_left _ he
    by_cases lO:e.ix=d.ix
    · exact Gq (J1 e XO lO▸EP)
    · exact ht e (WT e he) (wQ Fy lO) EP
 have BG:∀ e,Un (listed.setIfInBounds d.ix true) e->Un listed e/\e.ix≠d.ix:=fun e he=>JV he (by rw [qP];exact cQ)
 -- who ZQ made ahead of XK OQ stays aeN it is
 have Q8:∀ {E':Env} {aR:St} {w':World} {x:Value} {sf:List aF},Ext E st w E' aR w'->(∀ e∈sf,e∈suf/\e.ix≠d.ix)->(∀ e∈suf,¬Un listed e->∀ n,e.o.dst=some n->d.o.dst≠some n)->
  ∃ B:Nat->Nat,(∀ e∈sf,¬Un (listed.setIfInBounds d.ix true) e->r8 S E' aR w' (a.put o'.dst x) e (B e.ix))/\∀ e∈sf,∀ e'∈sf,¬Un (listed.setIfInBounds d.ix true) e->¬Un (listed.setIfInBounds d.ix true) e'->B e.ix=B e'.ix->e.ix=e'.ix:=by
  intro E' aR w' x sf hx Sc Dr
  obtain ⟨B,JS,Q4⟩:=h.early
  have wP:∀ e∈sf,¬Un (listed.setIfInBounds d.ix true) e->¬Un listed e:=fun e he hu JL=>hu (wQ JL (Sc e he).2)
  refine ⟨B,fun e he hu=>(JS e (Sc e he).1 (wP e he hu)).step hx fun n hn=>?_,fun e he e' CV hu WU=>Q4 e (Sc e he).1 e' (Sc e' CV).1 (wP e he hu) (wP e' CV WU)⟩
  rw [<-gO.dst]
  exact j2 (Dr e (Sc e he).1 (wP e he hu) n hn)
 rcases U3 with hp|hp
 · -- a quiet one,OC EI frame ZW WV
   obtain ⟨hl,hv⟩:=h.BB d hp RL
   have build:∀ {E':Env} {w':World} {v:V} {x:Value},bC E' st w'->Ext E st w E' st w'->Rel E' v x->(∀ n,d.o.dst=some n->fr.get n=v)->JW S P N K ds (listed.setIfInBounds d.ix true) E st w a (a.put o'.dst x) w':=by
    intro E' w' v x s1 s2 hr hn
    refine ⟨pre,suf,fr,st,E',fX,⟨s1,by rw [j3];exact h.size,?_,?_,?_,h.run⟩,s2,put_defers _ _ _⟩
    · refine iY (fun e he=>he) (fun e he _=>he) s2.le hr fun t=>?_
      by_cases ht:d.o.dst=some t
      · rw [if_pos ht];exact hn t ht
      · rw [if_neg ht]
    · refine Q8 s2 (fun e he=>⟨he,fun lO=>?_⟩) fun e he wP n jK=>?_
      · have Q9:=hd.nodup
        rw [<-fX,List.map_append,List.nodup_append] at Q9
        exact Q9.2.2 _ (List.mem_map_of_mem hp) _ (List.mem_map_of_mem he) lO.symm
      · rcases (Dt.2.2 d hp e he).w n jK with h1|h1
        · exact h1.2
        · exact absurd h1.2 (BF e he wP)
    · intro e he hu
      exact h.BB e he (BG e hu).1
   unfold wpOp
   simp only [ho]
   rcases hv with ⟨h1,v,hy,hn⟩|⟨h1,hn⟩
   · rw [if_pos (iT gO.gd pS (hgate.trans h1))]
     refine .inl (step_ok gO.op h.ES pS (K:=fun r=>r=(v,st)) (by rw [Q7];exact hy _ rfl) ?_)
     intro v' aR E' w' x hk s1 s2 hr
     cases hk
     exact build s1 s2 hr hn
   · rw [if_neg (by rw [iT gO.gd pS (hgate.trans h1)];simp)]
     exact build h.ES (.refl _ _ _) dN hn
 · -- EI next fO one
   obtain ⟨L,r,Se⟩:∃ L r,suf=L::r:=by
    cases suf with
    |nil=>cases hp
    |cons L r=>exact ⟨L,r,rfl⟩
   subst Se
   have hL:=(p6 L r rfl).1
   have WW:=(p6 L r rfl).2
   have Q9:=hd.nodup
   rw [<-fX,List.map_append,List.nodup_append] at Q9
   have U6:=Q9.2.1
   rw [List.map_cons,List.nodup_cons] at U6
   by_cases ZX:L=d
   case neg=>
    -- a new object,made ahead of XK OQ
    have hp:d∈r:=by
     rcases List.mem_cons.1 hp with hp|hp
     · exact absurd hp.symm ZX
     · exact hp
    have hF:nK d=true:=by
     rcases ((List.pairwise_cons.1 Dt.2.1).1 d hp).l hL with hA|hF
     · have h1:=JX _ hA
       rw [qO WW] at h1;cases h1
     · exact hF
    obtain ⟨g,zero,Bw,WQ,_⟩:=uN hF
    have zJ:=gO.op
    rw [Bw] at zJ
    obtain ⟨ty,Sf,hz⟩:∃ ty,o'.op=.alloc ty/\gP P ty zero=true:=by
     simp only [zZ] at zJ
     split at zJ
     · exact ⟨_,by assumption,zJ⟩
     · cases zJ
    obtain ⟨ti,z,hi,w9,gH,hzr,hl,h1⟩:=fA hz
    have hgw:bW d.o.guard (fr.gR (pB listed pre (L::r)))=some true:=by rw [WQ];rfl
    unfold wpOp
    simp only [ho]
    rw [if_pos (iT gO.gd pS hgw)]
    refine .inl (aG (x:=.pointer (some ⟨w.heap.size,0,none⟩)) (by simp [execOp,Sf,Instr.alloc,fR hi w9,newVar,newRow]) (w':=w.alloc (.cells z.cells ty)) ?_)
    obtain ⟨s1,s2⟩:=h.ES.spare (w':=w.alloc (.cells z.cells ty)) (ob:=.cells z.cells ty) rfl ⟨rfl,rfl,rfl⟩
    obtain ⟨B,JS,Q4⟩:=h.early
    have U7:∀ e∈L::r,¬Un listed e->B e.ix<w.heap.size:=fun e he hu=>by
     obtain ⟨_,_,cells,t,fz,_,_,h3,_⟩:=(JS e he hu).obj
     exact (Array.getElem?_eq_some_iff.1 h3).1
    have Dv:∀ e∈L::r,¬Un (listed.setIfInBounds d.ix true) e->e.ix=d.ix\/¬Un listed e:=fun e he hu=>by
     by_cases lO:e.ix=d.ix
     · exact .inl lO
     · exact .inr fun JL=>hu (wQ JL lO)
    refine ⟨pre,L::r,fr,st,E,fX,⟨s1,by rw [j3];exact h.size,fun t ht Q5=>?_,⟨fun i=>if i=d.ix then w.heap.size else B i,fun e he hu=>?_,fun e he e' CV hu WU EP=>?_⟩,fun e he hu=>h.BB e he (BG e hu).1,h.run⟩,s2,put_defers _ _ _⟩
    · have Gq:d.o.dst≠some t:=Q5 d (.tail _ hp) fun hu=>(BG d hu).2 rfl
      rw [<-gO.dst,j2 Gq]
      refine h.rel t (fun e he Fy EP=>ht e he (wQ Fy fun lO=>?_) EP) fun e he Fy=>Q5 e he (U5 e Fy)
      exact Gq (J1 e (by rw [<-fX];exact List.mem_append_left _ he) lO▸EP)
    · by_cases lO:e.ix=d.ix
      · have JH:=J1 e (by rw [<-fX];exact List.mem_append_right _ he) lO
        subst JH
        dsimp only
        rw [if_pos rfl]
        refine ⟨hS,fun n hn=>?_,⟨g,zero,z.cells,ty,(0,0),Bw,WQ,(by show (w.heap.push _)[w.heap.size]? =_;simp),.inl rfl,by omega,hzr,h1⟩,fun k hk=>?_,fun ob=>?_⟩
        · rw [<-gO.dst,hn,fT (U4 n hn)]
        · have:=h.ES.lt hk
          omega
        · cases hI:E.I w.heap.size ob with
          |none=>rfl
          |some x=>
           have:=h.ES.gJ _ _ _ hI
           simp [aT] at this
      · have JL:=(Dv e he hu).resolve_left lO
        dsimp only
        rw [if_neg lO]
        refine (JS e he JL).step s2 fun n hn=>?_
        rw [<-gO.dst]
        refine j2 fun UQ=>?_
        have cO:e≠d:=fun e2=>lO (by rw [e2])
        rcases List.mem_cons.1 he with rfl|WS
        · exact JL WW
        · have U8:=List.pairwise_iff_getElem.1 (List.pairwise_cons.1 Dt.2.1).2
          obtain ⟨x,hx,JZ⟩:=List.getElem_of_mem WS
          obtain ⟨y,hy,J0⟩:=List.getElem_of_mem hp
          rcases Nat.lt_trichotomy x y with Du|Du|Du
          · have:=U8 x y hx hy Du
            rw [JZ,J0] at this
            exact this.f hF n UQ hn
          · subst Du
            exact cO (JZ.symm.trans J0)
          · have:=U8 y x hy hx Du
            rw [JZ,J0] at this
            rcases this.w n hn with h2|h2
            · exact h2.2 UQ
            · exact BF e (.tail _ WS) JL h2.2
    · dsimp only at EP
      by_cases h1:e.ix=d.ix
      · by_cases h2:e'.ix=d.ix
        · rw [h1,h2]
        · rw [if_pos h1,if_neg h2] at EP
          have:=U7 e' CV ((Dv e' CV WU).resolve_left h2)
          omega
      · by_cases h2:e'.ix=d.ix
        · rw [if_neg h1,if_pos h2] at EP
          have:=U7 e he ((Dv e he hu).resolve_left h1)
          omega
        · rw [if_neg h1,if_neg h2] at EP
          exact Q4 e he e' CV ((Dv e he hu).resolve_left h1) ((Dv e' CV WU).resolve_left h2) EP
   subst ZX
   have J2:∀ e∈pre,mD ops e L:=fun e he=>Dt.2.2 e he L (.head _)
   obtain ⟨done,zW,C3,cJ⟩:=h.run
   simp only [eN] at cJ
   obtain ⟨AU,Dq,xY⟩:=xW cJ
   have build:∀ {E':Env} {aR:St} {w':World} {v:V} {x:Value},bC E' aR w'->Ext E st w E' aR w'->Rel E' v x->(∀ e∈pre,Un listed e->Dm (aB P) e (AU.next L.o.dst v []) aR)->
    (eN (L::done) r (AU.next L.o.dst v []) aR).wp (aB P) K->JW S P N K ds (listed.setIfInBounds L.ix true) E st w a (a.put o'.dst x) w':=by
    intro E' aR w' v x s1 s2 hr hv hw
    have XP:pre++[L]++r=ds:=by rw [<-fX];simp
    have eK:∀ t,(AU.next L.o.dst v []).get t=if L.o.dst=some t then v else fr.get t:=fun t=>by rw [fD,Dq]
    refine ⟨pre++[L],r,AU.next L.o.dst v [],aR,E',XP,⟨s1,by rw [j3];exact h.size,?_,?_,?_,L::done,?_,?_,hw⟩,s2,put_defers _ _ _⟩
    · refine iY (fun e he=>List.mem_append_left _ he) (fun e he hu=>?_) s2.le hr eK
      rcases List.mem_cons.1 he with rfl|he
      · exact absurd WW hu
      · exact he
    · refine Q8 s2 (fun e he=>⟨.tail _ he,fun lO=>U6.1 (lO▸List.mem_map_of_mem he)⟩) fun e he wP n jK=>?_
      rcases List.mem_cons.1 he with rfl|he
      · exact absurd WW wP
      · rcases ((List.pairwise_cons.1 Dt.2.1).1 e he).w n jK with h1|h1
        · exact h1.2
        · exact absurd h1.2 (BF e (.tail _ he) wP)
    · intro e he hu
      obtain ⟨ZY,JL⟩:=BG e hu
      rw [List.mem_append,List.mem_singleton] at he
      rcases he with he|rfl
      · exact ⟨(h.BB e he ZY).1,hv e he ZY⟩
      · exact absurd rfl JL
    · intro y hy
      rcases List.mem_cons.1 hy with rfl|hy
      · simp
      · simp [zW y hy]
    · intro y hy
      rw [List.mem_append,List.mem_singleton] at hy
      rcases hy with hy|rfl
      · exact .tail _ (C3 y hy)
      · exact .head _
   -- Fi is known of EI frame holds on behind it
   have Gp:∀ (v:V) (e:aF),e∈pre->Un listed e->∀ t,t∈e.reads\/e.o.dst=some t->fr.get t=(AU.next L.o.dst v []).get t:=by
    intro v e he Fy t ht
    rw [fD,Dq,if_neg]
    intro XN
    rcases (J2 e he).w t XN with this|this
    · rcases ht with ht|ht
      · exact this.1 ht
      · exact this.2 ht
    · have h1:=JX _ this.2
      rw [qO Fy] at h1;cases h1
   unfold wpOp
   simp only [ho]
   rcases xY with ⟨hg,hw⟩|⟨hg,hw⟩
   · rw [if_pos (iT gO.gd pS (hgate.trans hg))]
     rw [T.wp_bind] at hw
     have HF:step L.o.op AU st=step L.o.op fr st:=fZ (fun t _=>Dq t) st
     rw [HF,<-Q7] at hw
     refine .inl (step_ok gO.op h.ES pS hw ?_)
     intro v aR E' w' x hk s1 s2 hr
     dsimp only at hk
     rw [Fr.bJ] at hk
     have xZ:∀ p∈done,bK p.ix L.re=true->eV p.o.op=true:=fun p OO hm=>by
      have WT:=zW p OO
      obtain ⟨op,Bw⟩:=hd.one p (by rw [<-fX];exact List.mem_append_left _ WT)
      exact Bw.quiet ((J2 p WT).q hm).2
     obtain ⟨EM,Hp⟩:=iM xZ hk
     refine build s1 s2 hr (fun e he hu=>?_) EM
     obtain ⟨hl,hv⟩:=h.BB e he hu
     have RO:=hv.congr (Gp v e he hu)
     rcases (J2 e he).s hL hl with hA|hA|hA
     · have h1:=JX _ hA
       rw [qO hu] at h1;cases h1
     · exact RO.pure hA aR
     · rcases RO with ⟨g1,_⟩|g
       · exact .inl ⟨g1,Hp e (C3 e he) hA g1⟩
       · exact .inr g
   · rw [if_neg (by rw [iT gO.gd pS (hgate.trans hg)];simp)]
     rw [Fr.bJ] at hw
     exact build h.ES (.refl _ _ _) dN (fun e he hu=>(h.BB e he hu).2.congr (Gp _ e he hu)) hw
end
section
variable {P:Program} {ops:Array Oper} {N:Nat} {K:Fr×St->Prop} {Q:Exit->Act->World->Prop}
def dX (listed:Array Bool):List aF->Nat
 |[]=>0
 |d::r=>(match listed.getD d.ix true with|false=>1|true=>0)+dX listed r
theorem mE {listed:Array Bool}:∀ {l:List aF},dX listed l=0->∀ d∈l,¬Un listed d
 |[],_,d,hd=>by cases hd
 |e::r,h,d,hd=>by
  simp only [dX] at h
  have h1:(match listed.getD e.ix true with|false=>1|true=>0)=0:=by omega
  rcases List.mem_cons.1 hd with rfl|hd
  · intro hu
    simp only [Un] at hu
    rw [hu] at h1;simp at h1
  · exact mE (by omega) d hd
end
section
variable {P:Program} {ops:Array Oper} {N:Nat} {K:Fr×St->Prop} {Q:Exit->Act->World->Prop}
theorem p7 {listed:Array Bool} {i:Nat}:∀ {l:List aF},(∀ d∈l,d.ix≠i)->dX (listed.setIfInBounds i true) l=dX listed l
 |[],_=>rfl
 |d::r,h=>by
  have hd:(listed.setIfInBounds i true).getD d.ix true=listed.getD d.ix true:=by
   simp only [Array.getD_eq_getD_getElem?]
   rw [Array.getElem?_setIfInBounds_ne (fun e=>h d (.head _) e.symm)]
  simp only [dX,hd,p7 (fun e he=>h e (.tail _ he))]
theorem nO {listed:Array Bool} {d:aF} (cQ:d.ix<listed.size) (hu:Un listed d):∀ {l:List aF},(l.map (·.ix)).Nodup->d∈l->dX (listed.setIfInBounds d.ix true) l+1=dX listed l
 |[],_,h=>by cases h
 |e::r,hn,h=>by
  rw [List.map_cons,List.nodup_cons] at hn
  rcases List.mem_cons.1 h with rfl|h
  · have hs:(listed.setIfInBounds d.ix true).getD d.ix true=true:=by simp [Array.getD_eq_getD_getElem?,cQ]
    have ho:dX (listed.setIfInBounds d.ix true) r=dX listed r:=p7 fun e he lO=>hn.1 (lO▸List.mem_map_of_mem he)
    simp only [Un] at hu
    simp only [dX,hs,hu,ho]
    omega
  · have cO:e.ix≠d.ix:=fun lO=>hn.1 (lO▸List.mem_map_of_mem h)
    have he:(listed.setIfInBounds d.ix true).getD e.ix true=listed.getD e.ix true:=by
     simp only [Array.getD_eq_getD_getElem?]
     rw [Array.getElem?_setIfInBounds_ne (fun q=>cO q.symm)]
    have ih:=nO cQ hu hn.2 h
    simp only [dX,he]
    omega
theorem uO {ds:List aF} (hd:BC P N ops ds) {listed:Array Bool} (qP:listed.size=ops.size) (hr:Region.ready .any ops listed=[]):∀ (pre suf:List aF),ds=pre++suf->(∀ d∈pre,¬Un listed d)->∀ d∈ds,¬Un listed d
 |pre,[],h,hp=>fun d AV=>hp d (by rw [h] at AV;simpa using AV)
 |pre,d::suf,h,hp=>by
  refine uO hd qP hr (pre++[d]) suf (by rw [h];simp) fun e he=>?_
  rw [List.mem_append,List.mem_singleton] at he
  rcases he with he|rfl
  · exact hp e he
  · intro hu
    obtain ⟨o,ho⟩:=hd.one e (by rw [h];simp)
    have:e.ix∈Region.ready .any ops listed:=mem_ready.2 ⟨hu,o,ho.at_,fun ed JH hb=>by
     obtain ⟨p,ZZ,XQ⟩:=hd.U0 pre e suf h o ho.at_ ed JH hb
     have:=hp p ZZ
     rw [<-XQ]
     simp only [Un,Array.getD_eq_getD_getElem?] at this ⊢
     cases hq:listed[p.ix]? with
     |none=>
      obtain ⟨op,Bw⟩:=hd.one p (by rw [h];exact List.mem_append_left _ ZZ)
      have h1:=(Array.getElem?_eq_some_iff.1 Bw.at_).1
      have h2:=Array.getElem?_eq_none_iff.1 hq
      omega
     |some b=>rw [hq] at this;simp at this ⊢;exact this⟩
    rw [hr] at this;cases this
end
section
variable {P:Program} {ops:Array Oper} {N:Nat} {K:Fr×St->Prop} {Q:Exit->Act->World->Prop}
theorem J3 {ds:List aF} (hd:BC P N ops ds) {E0:Env} {st0:St} {w0:World} {a0:Act}
 (hQ:∀ fr st E a w,K (fr,st)->bC E st w->Ext E0 st0 w0 E st w->aJ E N fr a->a.defers=a0.defers->Q .normal a w):
 ∀ (fuel:Nat) {pre suf:List aF} {listed:Array Bool} {E:Env} {st:St} {w:World} {fr:Fr} {a:Act},pre++suf=ds->mW w0.heap.size (aB P) N K pre suf listed E st w fr a->Ext E0 st0 w0 E st w->a.defers=a0.defers->listed.size=ops.size->
  (∀ i o,listed.getD i false=true->ops[i]? =some o->∀ e∈o.after,Region.binds .any e=true->listed.getD e.on false=true)->dX listed ds<=fuel->wpAny P .any ops Q fuel listed a w:=by
 have fin:∀ {pre suf:List aF} {listed:Array Bool} {E:Env} {st:St} {w:World} {fr:Fr} {a:Act},pre++suf=ds->mW w0.heap.size (aB P) N K pre suf listed E st w fr a->Ext E0 st0 w0 E st w->a.defers=a0.defers->listed.size=ops.size->(∀ d r,suf=d::r->d.fO=true/\Un listed d)->
  Region.ready .any ops listed=[]->Q .normal a w:=by
  intro pre suf listed E st w fr a fX h he Ud qP p6 hr
  have vU:=uO hd qP hr [] ds rfl (fun d hd=>by cases hd)
  have Se:suf=[]:=by
   cases suf with
   |nil=>rfl
   |cons d r=>exact absurd (p6 d r rfl).2 (vU d (by rw [<-fX];simp))
  subst Se
  obtain ⟨done,_,_,cJ⟩:=h.run
  refine hQ fr st E a w cJ h.ES he ⟨h.size,fun t=>h.rel t (fun d AV hu=>?_) fun d AV=>by cases AV⟩ Ud
  exact absurd hu (vU d (by rw [<-fX];exact List.mem_append_left _ AV))
 intro fuel
 induction fuel with
 |zero=>
  intro pre suf listed E st w fr a fX h he Ud qP l7 hc
  have xL:=mE (listed:=listed) (l:=ds) (by omega)
  have hr:Region.ready .any ops listed=[]:=by
   rw [List.eq_nil_iff_forall_not_mem]
   intro i hi
   obtain ⟨Ac,o,ho,_⟩:=mem_ready.1 hi
   obtain ⟨d,AV,rfl⟩:=hd.all i (Array.getElem?_eq_some_iff.1 ho).1
   exact xL d AV Ac
  obtain ⟨Ds,BD,bH,E',aR,lT,h',CV,p6⟩:=h.normal (ops:=ops) qP l7 he (by rw [fX];exact hd.pair) (by rw [fX];exact hd.nodup) (by rw [fX];exact hd.one)
  exact ⟨hr,fin (lT.trans fX) h' CV Ud qP p6 hr⟩
 |succ fuel ih=>
  intro pre suf listed E st w fr a fX h he Ud qP l7 hc
  obtain ⟨Ds,BD,bH,E',aR,lT,h',CV,p6⟩:=h.normal (ops:=ops) qP l7 he (by rw [fX];exact hd.pair) (by rw [fX];exact hd.nodup) (by rw [fX];exact hd.one)
  rw [fX] at lT
  refine ⟨fun hr=>fin lT h' CV Ud qP p6 hr,fun i hi=>?_⟩
  refine wpOp_mono ?_ (HE hd lT h' CV.size p6 qP l7 hi)
  rintro a1 w1 ⟨p1,s1,f1,IN,E1,XR,hi1,U9,XS⟩
  obtain ⟨Ac,o,ho,x6⟩:=mem_ready.1 hi
  have XT:=(Array.getElem?_eq_some_iff.1 ho).1
  obtain ⟨d,AV,rfl⟩:=hd.all i XT
  refine ih XR hi1 (CV.trans U9) (XS.trans Ud) (by simpa using qP) ?_ ?_
  · intro j o' hj Of e EP hb
    have key:listed.getD e.on false=true:=by
     by_cases WI:j=d.ix
     · subst WI
       rw [ho] at Of;cases Of
       exact x6 e EP hb
     · refine l7 j o' ?_ Of e EP hb
       simp only [Array.getD_eq_getD_getElem?] at hj ⊢
       rw [Array.getElem?_setIfInBounds_ne (fun q=>WI q.symm)] at hj
       exact hj
    exact getD_set_true key
  · have:=nO (listed:=listed) (d:=d) (by omega) Ac hd.nodup AV
    omega
end
section
variable {P:Program} {ops:Array Oper} {N:Nat} {K:Fr×St->Prop} {Q:Exit->Act->World->Prop}
theorem r9 {Gn:List (Nat×Nat)} (ht:xV ops Gn):∀ {ds:List aF},wM Gn ds=true->ds.Pairwise (mD ops)
 |[],_=>.nil
 |d::r,h=>by
  simp only [wM,Bool.and_eq_true,List.all_eq_true] at h
  exact .cons (fun e he=>Dp ht (h.1 e he)) (r9 ht h.2)
theorem sA:∀ {ds:List aF} {seen:List Nat},wN ops seen ds=true->
 (∀ pre d suf,ds=pre++d::suf->∀ o,ops[d.ix]? =some o->∀ e∈o.after,Region.binds .any e=true->e.on∈seen\/∃ p∈pre,p.ix=e.on)/\(ds.map (·.ix)).Nodup/\∀ d∈ds,d.ix∉seen
 |[],seen,_=>⟨fun pre d suf h=>by simp at h,by simp,fun d hd=>by cases hd⟩
 |q::r,seen,h=>by
  simp only [wN,Bool.and_eq_true,Bool.not_eq_true'] at h
  obtain ⟨⟨h1,h2⟩,h3⟩:=h
  obtain ⟨i1,i2,i3⟩:=sA h3
  have hq:q.ix∉seen:=fun hm=>by rw [bG.2 hm] at h2;cases h2
  refine ⟨fun pre d suf fX o ho e he hb=>?_,?_,?_⟩
  · cases pre with
    |nil=>
     simp only [List.nil_append,List.cons.injEq] at fX
     obtain ⟨rfl,rfl⟩:=fX
     rw [ho] at h1
     simp only [List.all_eq_true] at h1
     left
     refine bG.1 (h1 e.on ?_)
     simp only [jL,List.mem_map,List.mem_filter]
     exact ⟨e,⟨by simpa using he,hb⟩,rfl⟩
    |cons p pre=>
     simp only [List.cons_append,List.cons.injEq] at fX
     obtain ⟨rfl,rfl⟩:=fX
     rcases i1 pre d suf rfl o ho e he hb with hm|⟨p,hp,XQ⟩
     · rcases List.mem_cons.1 hm with hm|hm
       · exact .inr ⟨q,.head _,hm.symm⟩
       · exact .inl hm
     · exact .inr ⟨p,.tail _ hp,XQ⟩
  · rw [List.map_cons,List.nodup_cons]
    refine ⟨fun hm=>?_,i2⟩
    obtain ⟨d,hd,Ue⟩:=List.mem_map.1 hm
    exact i3 d hd (by rw [Ue];exact .head _)
  · intro d hd
    rcases List.mem_cons.1 hd with rfl|hd
    · exact hq
    · exact fun hm=>i3 d hd (.tail _ hm)
end
open Go
section
variable {P:Program} {ops:Array Oper} {N:Nat} {K:Fr×St->Prop} {Q:Exit->Act->World->Prop}
theorem x7 {d:aF} (h:JQ P N ops d=true):∃ o,JT P N ops d o:=by
 unfold JQ at h
 split at h
 case h_2=>cases h
 rename_i o ho
 simp only [Bool.and_eq_true,decide_eq_true_eq,Bool.or_eq_true] at h
 obtain ⟨⟨⟨⟨⟨h1,h2⟩,h3⟩,h4⟩,h5⟩,h6⟩:=h
 refine ⟨o,ho,h1,h2,fun n hn=>?_,h4,fun hl=>?_,fun n hn hm=>?_⟩
 · rw [hn] at h3;simpa [Dj] using h3
 · rcases h5 with h5|h5
   · rw [hl] at h5;cases h5
   · exact h5
 · rw [hn] at h6
   simp only [Bool.not_eq_true'] at h6
   rw [bG.2 hm] at h6;cases h6
theorem mF:∀ (n:Nat) {l:List Nat},l.Nodup->(∀ i∈l,i<n)->l.length<=n
 |0,l,_,hb=>by
  cases l with
  |nil=>simp
  |cons x r=>have:=hb x (.head _);omega
 |n+1,l,hn,hb=>by
  by_cases hm:n∈l
  · have hlen:=List.length_erase_of_mem hm
    have:=mF n (l:=l.erase n) (hn.erase n) (fun j hj=>by
     have h1:=(hn.mem_erase_iff.1 hj)
     have h2:=hb j h1.2
     omega)
    omega
  · have:=mF n (l:=l) hn (fun j hj=>by
     have h1:=hb j hj
     have h2:j≠n:=fun e=>hm (e▸hj)
     omega)
    omega
theorem p8:∀ (n:Nat) {l:List Nat},l.Nodup->(∀ i∈l,i<n)->l.length=n->∀ i,i<n->i∈l
 |0,l,_,_,_,i,hi=>by omega
 |n+1,l,hn,hb,hl,i,hi=>by
  have OR:n∈l:=by
   refine Classical.byContradiction fun XM=>?_
   have:l.length<=n:=by
    refine mF n hn fun j hj=>?_
    have h1:=hb j hj
    have h2:j≠n:=fun e=>XM (e▸hj)
    omega
   omega
  by_cases kN:i=n
  · subst kN;exact OR
  have hlen:=List.length_erase_of_mem OR
  have:=p8 n (l:=l.erase n) (hn.erase n) (fun j hj=>by
   have h1:=(hn.mem_erase_iff.1 hj)
   have h2:=hb j h1.2
   omega) (by omega) i (by omega)
  exact List.mem_of_mem_erase this
theorem Dw {ds:List aF} (h:tH P N ops ds=true):BC P N ops ds:=by
 unfold tH at h
 simp only [Bool.and_eq_true,decide_eq_true_eq,List.all_eq_true] at h
 obtain ⟨⟨⟨⟨h1,h2⟩,h3⟩,h4⟩,h5⟩:=h
 obtain ⟨e1,e2,_⟩:=sA h5
 refine ⟨h1,fun d hd=>x7 (h3 d hd),r9 (allAncs_ok ops _) h4,fun pre d suf fX o ho e he hb=>?_,e2,fun i hi=>?_⟩
 · rcases e1 pre d suf fX o ho e he hb with hm|h
   · cases hm
   · exact h
 · have:=p8 ops.size (l:=ds.map (·.ix)) e2 (fun j hj=>by
    obtain ⟨d,hd,rfl⟩:=List.mem_map.1 hj
    obtain ⟨o,ho⟩:=x7 (h3 d hd)
    exact (Array.getElem?_eq_some_iff.1 ho.at_).1) (by simpa using h2) i hi
   obtain ⟨d,hd,Ue⟩:=List.mem_map.1 this
   exact ⟨d,hd,Ue⟩
theorem qQ (listed:Array Bool):∀ l:List aF,dX listed l<=l.length
 |[]=>Nat.le_refl _
 |d::r=>by
  have:=qQ listed r
  simp only [dX,List.length_cons]
  split<;>omega
theorem draw_ok {ds:List aF} (hk:tH P N ops ds=true) {id:Nat} {E:Env} {st:St} {w:World} {fr:Fr} {a:Act} (hs:bC E st w) (hf:aJ E N fr a)
 (hw:(eN [] ds fr st).wp (aB P) K)
 (hQ:∀ bH aR E' a' w',K (bH,aR)->bC E' aR w'->Ext E st w E' aR w'->aJ E' N bH a'->a'.defers=a.defers->Q .normal a' w'):
 (Code.region id ops true).wp P Q a w:=by
 have hd:=Dw hk
 refine wp_region_any hd.md ?_
 have hlen:ds.length=ops.size:=by
  unfold tH at hk
  simp only [Bool.and_eq_true,decide_eq_true_eq] at hk
  exact hk.1.1.1.2
 have Ac:∀ d∈ds,Un (Array.replicate ops.size false) d:=fun d AV=>by
  obtain ⟨o,ho⟩:=hd.one d AV
  have cQ:=(Array.getElem?_eq_some_iff.1 ho.at_).1
  simp [Un,Array.getD_eq_getD_getElem?,cQ]
 have mR:(Array.replicate ops.size false).size=ops.size:=by simp
 refine J3 (K:=K) hd (E0:=E) (st0:=st) (w0:=w) (a0:=a) (fun bH aR E' a' w' h1 h2 h3 h4 h5=>hQ bH aR E' a' w' h1 h2 h3 h4 h5)
  ops.size (pre:=[]) (suf:=ds) (E:=E) (st:=st) (fr:=fr) (by simp) ?_ (Ext.drawn (w.drawn+1)) rfl mR ?_ ?_
 · refine ⟨hs.of_heap (w:=w) (w':={ w with drawn:=w.drawn+1 }) rfl,hf.size,fun t _ _=>hf.rel t,⟨fun _=>0,fun d hd hu=>absurd (Ac d hd) hu,fun d hd _ _ hu=>absurd (Ac d hd) hu⟩,fun d hd=>(by cases hd),[],fun x h=>h,fun x h=>h,hw⟩
 · intro i o hi ho
   have cQ:=(Array.getElem?_eq_some_iff.1 ho).1
   simp [Array.getD_eq_getD_getElem?,cQ] at hi
 · rw [<-hlen];exact qQ _ _
end
open Go
def Gr (w:World) (b:Nat) (es:List (V×V)) (kv:V) (s:Nat):Prop:=
 ∃ aP clock j en,w.heap[b]? =some (.map aP clock)/\aP[j]? =some en/\en.born=s/\j<es.length/\∀ u,dU es kv u=es.set j (kv,u)
section
variable {P:Program} {o:Oper} {a:Act} {E:Env} {N:Nat} {st:St} {w:World} {fr:Fr} {K:R->Prop}
theorem qR {kd:Option IntKind} {v:V} (h:v.cB kd=true):lK v v=true:=by
 cases kd<;>cases v<;>simp [V.cB,lK] at h ⊢
theorem AW {kd:Option IntKind} {kv u u':V} (hk:kv.cB kd=true):∀ {es:List (V×V)},dU es kv u=es++[(kv,u)]->dU (es++[(kv,u')]) kv u=(es++[(kv,u')]).set es.length (kv,u)
 |[],_=>by simp [dU,qR hk]
 |(k,x)::r,h=>by
  simp only [dU] at h
  split at h
  · have:=congrArg List.length h
    simp at this
  · rename_i cO
    have h2:dU r kv u=r++[(kv,u)]:=by simpa using h
    simp only [List.cons_append,dU,if_neg cO,List.length_cons,List.set_cons_succ]
    rw [AW hk h2]
theorem sB {kv:V}:∀ {es:List (V×V)} {u:V},dU es kv u=es++[(kv,u)]->∀ u',dU es kv u'=es++[(kv,u')]
 |[],_,_,_=>rfl
 |(k,x)::r,u,h,u'=>by
  simp only [dU] at h ⊢
  split at h
  · have:=congrArg List.length h
    simp at this
  · rename_i cO
    rw [if_neg cO]
    have h2:dU r kv u=r++[(kv,u)]:=by simpa using h
    rw [sB h2 u'];rfl
theorem mH {kd:Option IntKind} {kv u u':V} (hk:kv.cB kd=true):∀ {es:List (V×V)},dU (dU es kv u') kv u=dU es kv u
 |[]=>by simp [dU,qR hk]
 |(k,x)::r=>by
  simp only [dU]
  split
  · simp [dU,qR hk]
  · rename_i cO
    simp only [dU,if_neg cO,mH hk]
theorem J4 {t kt el:TypeId} {x y:Operand} {kd:Option IntKind} {k:Key} {es:List (V×V)} {kv:V} (ho:o.op=.mapEntry t x y) (hu:P.underlying t=some (.map kt el)) (hk:mS P kt kd=true) (hz:∃ i z,P.info? el=some i/\i.zero=some z)
 (hs:bC E st w) (r1:Rel E (.m k) (a.eval x)) (r2:Rel E kv (a.eval y)) (hO:kv.cB kd=true) (dC:st.get k=some (.mp kd es)):
 ∃ (val:Value) (s:Nat) (w':World),(execOp a.eval o).run P w=.ok (.value (.tuple #[val,goInt s])) w'/\bC E (st.set k (.mp kd (dU es kv .a8))) w'/\Ext E st w E (st.set k (.mp kd (dU es kv .a8))) w'/\Gr w' (E.μ k).aW (dU es kv .a8) kv s:=by
 obtain ⟨dd,AI,qJ⟩:=mB hk
 obtain ⟨inf,z,hi,hz⟩:=hz
 have JJ:=r2.key hO
 have JK:=qJ hO JJ
 generalize EN:a.eval x=y' at r1
 cases r1 with
 |deep hd=>cases hd
 |m _ WJ=>
  obtain ⟨aP,clock,hb,hp⟩:=hs.Dd dC
  have R6:=hs.o9 dC hb
  have l9:=fun b=>MapKept.run_checkKey (w:=w) (P:=P) AI JK b 9999
  have hg:=MapKept.run_getObj_map (P:=P) hb
  have On:cV (E.at k).I kv (a.eval y):=by rw [Env.OM];exact JJ
  rcases find_spec (E:=E.at k) qJ hO On .a8 es aP.toList 0 hp with ⟨a1,a2,a3,_⟩|⟨j,en,q,a1,a2,a3,a4,a5,a6,_⟩
  · have AM:=MapKept.run_findKey (P:=P) (w:=w) AI a1
    obtain ⟨s1,s2⟩:=hs.qI dC hb (aP.push { key:=a.eval y,val:=z,born:=clock }) (clock+1) (es++[(kv,.a8)]) (AL R6 _ _) ⟨by simp [<-hp.1],fun j q en hq jK=>by
     rw [Array.toList_push] at jK
     rw [List.getElem?_append] at hq jK
     have hlen:=hp.1
     split at hq
     · rename_i cQ
       rw [if_pos (by omega)] at jK
       exact hp.2 j q en hq jK
     · rename_i cQ
       rw [if_neg (by omega)] at jK
       have h0:j - es.length=0:=by
        have:=(List.getElem?_eq_some_iff.1 hq).1
        simp at this;omega
       rw [h0] at hq
       rw [hlen,h0] at jK
       simp at hq jK
       subst hq;subst jK
       exact ⟨On,hO,.a8 _⟩⟩
    rw [a3]
    have gH:aP.size=es.length:=by have:=hp.1;simpa using this
    refine ⟨z,clock,_,?_,s1,s2,aP.push { key:=a.eval y,val:=z,born:=clock },clock+1,es.length,{ key:=a.eval y,val:=z,born:=clock },(MapKept.heap_set (o':=.map (aP.push { key:=a.eval y,val:=z,born:=clock }) (clock+1)) hb).1,?_,rfl,by simp,fun u=>?_⟩
    · simp [execOp,ho,EN,Instr.mapEntry,run_underlying hu,hg,l9,AM,MapKept.run_setObj_map _ hb,fR hi hz]
    · rw [<-gH];simp
    · exact AW hO (sB a3 u)
  · have AM:=MapKept.run_findKey (P:=P) (w:=w) AI a1
    have hj:aP[j]? =some en:=by simpa using a2
    obtain ⟨s1,s2⟩:=hs.qI dC hb (aP.modify j fun e'=>{ e' with key:=a.eval y }) clock (es.set j (kv,.a8)) (by
     have:=nJ R6 j (a.eval y) en.val
     have e1:(aP.modify j fun e'=>{ e' with key:=a.eval y,val:=en.val })=aP.modify j fun e'=>{ e' with key:=a.eval y }:=by
      apply Array.ext_getElem?
      intro i
      rw [Array.getElem?_modify,Array.getElem?_modify]
      split
      · rename_i r6;subst r6;rw [hj];rfl
      · rfl
     rw [e1] at this
     exact this) ⟨by simp [<-hp.1],fun i q' T7 hq jK=>by
     rw [Array.getElem?_toList,Array.getElem?_modify] at jK
     by_cases r6:j=i
     · subst r6
       rw [if_pos rfl,hj] at jK
       simp only [Option.map_some,Option.some.injEq] at jK
       have cQ:=(List.getElem?_eq_some_iff.1 a3).1
       rw [List.getElem?_set_self cQ] at hq
       simp only [Option.some.injEq] at hq
       subst hq;subst jK
       exact ⟨On,hO,.a8 _⟩
     · rw [if_neg r6] at jK
       rw [List.getElem?_set_ne r6] at hq
       exact hp.2 i q' T7 hq (by simpa using jK)⟩
    rw [a6]
    have cQ:=(List.getElem?_eq_some_iff.1 a3).1
    have Bs:∀ u,dU (es.set j (kv,.a8)) kv u=(es.set j (kv,.a8)).set j (kv,u):=by
     intro u
     rw [List.set_set,<-a6,mH hO]
     rcases find_spec (E:=E.at k) qJ hO On u es aP.toList 0 hp with ⟨b1,_⟩|⟨j',T7,q',b1,_,_,_,_,b6,_⟩
     · rw [a1] at b1;cases b1
     · rw [a1] at b1
       have:j'=j:=by simp only [Option.some.injEq,Prod.mk.injEq] at b1;omega
       rw [b6,this]
    refine ⟨en.val,en.born,_,?_,s1,s2,aP.modify j fun e'=>{ e' with key:=a.eval y },clock,j,{ en with key:=a.eval y },(MapKept.heap_set (o':=.map (aP.modify j fun e'=>{ e' with key:=a.eval y }) clock) hb).1,?_,rfl,by simpa using cQ,Bs⟩
    · simp [execOp,ho,EN,Instr.mapEntry,run_underlying hu,hg,l9,AM,hj,a4,MapKept.run_keyThatStays JK,MapKept.run_setObj_map _ hb]
    · rw [Array.getElem?_modify,if_pos rfl,hj];rfl
theorem OS {t:TypeId} {x sx v:Operand} {kd:Option IntKind} {k:Key} {es:List (V×V)} {kv u:V} {s:Nat} (ho:o.op=.entryStore t x sx v)
 (hs:bC E st w) (r1:Rel E (.m k) (a.eval x)) (hsx:a.eval sx=goInt s) (r3:Rel (E.at k) u (a.eval v)) (hO:kv.cB kd=true) (dC:st.get k=some (.mp kd (dU es kv .a8))) (wK:Gr w (E.μ k).aW (dU es kv .a8) kv s):
 ∃ w',(execOp a.eval o).run P w=.ok .skip w'/\bC E (st.set k (.mp kd (dU es kv u))) w'/\Ext E st w E (st.set k (.mp kd (dU es kv u))) w':=by
 generalize EN:a.eval x=y' at r1
 cases r1 with
 |deep hd=>cases hd
 |m _ WJ=>
  obtain ⟨aP,clock,hb,hp⟩:=hs.Dd dC
  have R6:=hs.o9 dC hb
  obtain ⟨uL,qH,j,en,b1,b2,b3,b4,b5⟩:=wK
  rw [hb] at b1
  cases b1
  have hg:=MapKept.run_getObj_map (P:=P) hb
  have vX:j<aP.size:=(Array.getElem?_eq_some_iff.1 b2).1
  have Va:aP.findIdx? (fun e=>(e.born:Int)==(s:Int))=some j:=by
   rw [Array.findIdx?_eq_some_iff_getElem]
   refine ⟨vX,?_,fun i hi=>?_⟩
   · have:=(Array.getElem?_eq_some_iff.1 b2).2
     rw [this,b3];simp
   · intro hc
     have hc:(aP[i]'(by omega)).born=s:=by
      have hc:((aP[i]'(by omega)).born:Int)=(s:Int):=by simpa using hc
      omega
     have hn:=R6.2
     have e1:(aP.toList.map (·.born))[i]'(by simp;omega)=s:=by simpa using hc
     have e2:(aP.toList.map (·.born))[j]'(by simpa using vX)=s:=by
      have:=(Array.getElem?_eq_some_iff.1 b2).2
      simp [this,b3]
     have:=(List.getElem_inj hn).1 (e1.trans e2.symm)
     omega
  have hk:=hp.2
  obtain ⟨s1,s2⟩:=hs.qI dC hb (aP.modify j fun e'=>{ e' with val:=a.eval v }) clock ((dU es kv .a8).set j (kv,u)) (by
   have:=nJ R6 j en.key (a.eval v)
   have e1:(aP.modify j fun e'=>{ e' with key:=en.key,val:=a.eval v })=aP.modify j fun e'=>{ e' with val:=a.eval v }:=by
    apply Array.ext_getElem?
    intro i
    rw [Array.getElem?_modify,Array.getElem?_modify]
    split
    · rename_i r6;subst r6;rw [b2];rfl
    · rfl
   rw [e1] at this
   exact this) ⟨by simp [<-hp.1],fun i q' T7 hq jK=>by
   rw [Array.getElem?_toList,Array.getElem?_modify] at jK
   by_cases r6:j=i
   · subst r6
     rw [if_pos rfl,b2] at jK
     simp only [Option.map_some,Option.some.injEq] at jK
     rw [List.getElem?_set_self b4] at hq
     simp only [Option.some.injEq] at hq
     subst hq;subst jK
     have hold:(dU es kv .a8)[j]? =some (kv,.a8):=by
      have h5:=b5 .a8
      rw [mH hO] at h5
      have h6:=List.getElem?_set_self (a:=(kv,V.a8)) b4
      rw [<-h5] at h6
      exact h6
     have:=hk j (kv,.a8) en hold (by rw [Array.getElem?_toList];exact b2)
     exact ⟨this.1,hO,r3⟩
   · rw [if_neg r6] at jK
     rw [List.getElem?_set_ne r6] at hq
     exact hk i q' T7 hq (by simpa using jK)⟩
  rw [<-b5 u,mH hO] at s1 s2
  refine ⟨_,?_,s1,s2⟩
  simp [execOp,ho,EN,hsx,Instr.entryStore,hg,goInt,asInt,asIntOf,Result.andThen,Va,MapKept.run_setObj_map _ hb]
end
open Go
def qOp:pQ->Bool
 |.mv _=>true
 |.rG _=>true
 |.jS _ _=>true
 |.load _ _=>true
 |_=>false
section
variable {P:Program} {o:Oper} {a:Act} {E:Env} {N:Nat} {st:St} {w:World} {fr:Fr} {next:Act->World->Prop} {Q:Exit->Act->World->Prop}
theorem Vb {A:pQ} (hq:qOp A=true) (h:zZ P o.op A=true) (hs:bC E st w) (hf:aJ E N fr a) {v:V} (hy:(step A fr st).Yields (aB P) st v) (hn:∀ x,Rel E v x->next (a.put o.dst x) w):o.wp P a w next Q:=by
 have hw:=hy (fun r=>r=(v,st)) rfl
 cases A<;>simp only [qOp,Bool.false_eq_true] at hq<;>simp only [zZ] at h
 case mv d=>
  split at h
  · rename_i x ho
    have hv:d.ev fr=v:=(Prod.mk.inj hw).1
    exact aG (x:=a.eval x) (by simp [execOp,ho]) (hn _ (hv▸aH h hf))
  · cases h
 case rG d=>
  split at h
  · rename_i x ho
    have h1:=aH h hf
    simp only [step] at hw
    split at hw
    case h_5=>exact hw.elim
    all_goals
     rename_i e1
     rw [e1] at h1
     have hv:=(Prod.mk.inj hw).1
     rw [hv] at h1
     refine aG (x:=a.eval x) ?_ (hn _ h1)
     rw [<-hv] at h1
     generalize HG:a.eval x=y at h1
     cases h1<;>first|(rename_i hd;cases hd)|simp [execOp,ho,HG]
  · cases h
 case jS off d=>
  split at h
  · rename_i t x f ho
    simp only [Bool.and_eq_true] at h
    obtain ⟨h1,h2⟩:=h
    split at h2
    · rename_i fs hu
      split at h2
      · rename_i fl w8
        simp only [Bool.and_eq_true,decide_eq_true_eq] at h2
        obtain ⟨h3,h4⟩:=h2
        split at h4
        · rename_i i hi
          have Xk:=of_decide_eq_true h4
          subst h3
          have h1:=aH h1 hf
          have cJ:∀ b c,a.eval x=.pointer (some ⟨b,c,none⟩)->(execOp a.eval o).run P w=.ok (.value (.pointer (some ⟨b,c+fl.offset,none⟩))) w:=by
           intro b c hb
           simp [execOp,ho,hb,Instr.fieldAt,run_underlying hu,w8,Instr.sureAddr,fieldPlace,sizeOf,typeInfo,hi,Xk,Addr.add_lit]
          simp only [step] at hw
          split at hw
          · rename_i k c e1
            rw [e1] at h1
            have hv:=(Prod.mk.inj hw).1
            subst hv
            generalize HG:a.eval x=y at h1
            cases h1 with
            |deep hd=>cases hd
            |p _ _ hk=>
             refine aG (cJ _ _ HG) (hn _ ?_)
             rw [Nat.add_assoc];exact .p _ _ hk
          · rename_i k sz ix c e1
            rw [e1] at h1
            have hv:=(Prod.mk.inj hw).1
            subst hv
            generalize HG:a.eval x=y at h1
            cases h1 with
            |deep hd=>cases hd
            |pa _ _ _ _ hk=>
             refine aG (cJ _ _ HG) (hn _ ?_)
             rw [Nat.add_assoc];exact .pa _ _ _ _ hk
          · rename_i cs c e1
            rw [e1] at h1
            have hv:=(Prod.mk.inj hw).1
            subst hv
            generalize HG:a.eval x=y at h1
            cases h1 with
            |deep hd=>cases hd
            |pc _ _ aW c0 val hv hr=>
             refine aG (cJ _ _ HG) (hn _ ?_)
             rw [Nat.add_assoc];exact .pc _ _ aW c0 val hv hr
          · exact hw.elim
        · cases h4
      · cases h2
    · cases h2
  · cases h
 case load n d=>
  split at h
  · rename_i t x ho
    simp only [Bool.and_eq_true] at h
    have h1:=aH h.1 hf
    have fin:∀ {b c:Nat} {cs:List V} {off:Nat},a.eval x=.pointer (some ⟨b,c+off,none⟩)->dV E w b c cs->cG cs off n=some v->o.wp P a w next Q:=by
     intro b c cs off hp o5 hv
     obtain ⟨z,uJ,wJ⟩:=jW (P:=P) h.2 o5 hv
     exact aG (x:=z) (by simp [execOp,ho,hp,Instr.loadAt,Instr.sureAddr,uJ]) (hn _ wJ)
    simp only [step] at hw
    split at hw
    · rename_i k off e1
      rw [e1] at h1
      generalize HG:a.eval x=y at h1
      cases h1 with
      |deep hd=>cases hd
      |p _ _ hk=>
       obtain ⟨ob,dC,hw⟩:=hw
       dsimp only at hw
       split at hw
       · unfold T.opt at hw
         split at hw
         · rename_i u hu
           have hv:=(Prod.mk.inj hw).1
           subst hv
           exact fin HG ((hs.cs dC).l6.mono (E.rL k)) hu
         · exact hw.elim
       · exact hw.elim
    · rename_i k sz ix off e1
      rw [e1] at h1
      generalize HG:a.eval x=y at h1
      cases h1 with
      |deep hd=>cases hd
      |pa _ _ _ _ hk=>
       obtain ⟨ob,dC,hw⟩:=hw
       dsimp only at hw
       split at hw
       · rename_i cS es
         split at hw
         · rename_i hz
           subst hz
           obtain ⟨e,he,hw⟩:=hw
           dsimp only at hw
           unfold T.opt at hw
           split at hw
           · rename_i u hu
             have hv:=(Prod.mk.inj hw).1
             subst hv
             have e9:=hs.obj k _ dC
             exact fin HG (elem_at e9.1 (e9.2.l6.mono (E.rL k)) he) hu
           · exact hw.elim
         · exact hw.elim
       · exact hw.elim
    · rename_i cs off e1
      rw [e1] at h1
      generalize HG:a.eval x=y at h1
      cases h1 with
      |deep hd=>cases hd
      |pc _ _ aW c0 val Vc hr=>
       unfold T.opt at hw
       split at hw
       · rename_i u hu
         have hv:=(Prod.mk.inj hw).1
         subst hv
         exact fin HG (hs.Ji Vc hr) hu
       · exact hw.elim
    · exact hw.elim
  · cases h
end
theorem gD {n x:Nat} {ob:Obj}:∀ {l:List (Nat×Obj)},x≠n->aA.find (aA.rF l n ob) x=aA.find l x
 |[],_=>rfl
 |(k,u)::r,h=>by
  simp only [aA.rF]
  split
  · rename_i e;subst e
    simp only [aA.find,if_neg (Ne.symm h)]
  · simp only [aA.find,gD h]
def x8 (st aR:St):Prop:=∀ k ob,st.get k=some ob->(∀ kd es,ob≠.mp kd es)->aR.get k=some ob
theorem x8.set {st aR:St} (h:x8 st aR) {k:Key} {kd:Option IntKind} {es:List (V×V)} (dC:aR.get k=some (.mp kd es)) (ob:Obj):x8 st (aR.set k ob):=by
 intro k' ob' h1 h2
 have h3:=h k' ob' h1 h2
 have cO:k'≠k:=by
  rintro rfl
  rw [dC] at h3
  cases h3
  exact h2 _ _ rfl
 have Bs:(aR.set k ob).get k'=aR.get k':=by
  obtain ⟨⟨gn,gl⟩,⟨ln,ll⟩⟩:=aR
  cases k with
  |g n=>
   cases k' with
   |g m=>exact gD (fun e=>cO (by rw [e]))
   |l m=>rfl
  |l n=>
   cases k' with
   |g m=>rfl
   |l m=>exact gD (fun e=>cO (by rw [e]))
 rw [Bs];exact h3
theorem Vd {A:aX} {op:pQ} (hq:qOp op=true) {fr:Fr} {st aR:St} (hn:x8 st aR) {v:V} (hy:(step op fr st).Yields A st v):(step op fr aR).Yields A aR v:=by
 cases op<;>simp only [qOp,Bool.false_eq_true] at hq
 case load n d=>
  intro K hK
  have hw:=hy (fun r=>r=(v,st)) rfl
  simp only [step] at hw ⊢
  split at hw
  · obtain ⟨ob,dC,hw⟩:=hw
    dsimp only at hw
    split at hw
    · rename_i c
      refine ⟨_,hn _ _ dC (fun _ _ e=>by cases e),?_⟩
      dsimp only
      unfold T.opt at hw ⊢
      split at hw
      · have hv:=(Prod.mk.inj hw).1
        subst hv
        exact hK
      · exact hw.elim
    · exact hw.elim
  · obtain ⟨ob,dC,hw⟩:=hw
    dsimp only at hw
    split at hw
    · refine ⟨_,hn _ _ dC (fun _ _ e=>by cases e),?_⟩
      dsimp only
      split at hw
      · rename_i hz
        rw [if_pos hz]
        obtain ⟨e,he,hw⟩:=hw
        refine ⟨e,he,?_⟩
        dsimp only at hw ⊢
        unfold T.opt at hw ⊢
        split at hw
        · have hv:=(Prod.mk.inj hw).1
          subst hv
          exact hK
        · exact hw.elim
      · exact hw.elim
    · exact hw.elim
  · unfold T.opt at hw ⊢
    split at hw
    · have hv:=(Prod.mk.inj hw).1
      subst hv
      exact hK
    · exact hw.elim
  · exact hw.elim
 all_goals
  intro K hK
  exact AR (by rfl) A fr st aR K (hy _ hK)
open Go
structure vZ where
 dm:Nat
 dx:Nat
 kd:Option IntKind
 d:aV
 e:aV
 c:aV
def Ve (d:aF):Bool:=
 match d.o.op with
 |.mv (.c .a8)=>true
 |_=>false
def j4:List aF->Option (List vZ)
 |[]=>some []
 |m::x::y::r=>match m.o.dst,x.o.dst,y.o.op with
  |some dm,some dx,.zO kd d e c=>if Ve m&&Ve x&&y.o.dst.isNone&&m.o.guard.isNone&&x.o.guard.isNone&&y.o.guard.isNone&&m.re.isEmpty&&x.re.isEmpty&&y.re.isEmpty then (j4 r).map (⟨dm,dx,kd,d,e,c⟩::·) else none
  |_,_,_=>none
 |_=>none
def XU (P:Program) (N:Nat) (ops:Array Oper) (i:Nat) (t:vZ):Bool:=
 match ops[i]?,ops[i+1]?,ops[i+2]? with
 |some om,some ox,some oy=>decide (om.dst=some t.dm)&&decide (ox.dst=some t.dx)&&oy.dst.isNone&&decide (t.dm<N)&&decide (t.dx<N)&&(match om.op,ox.op,oy.op with
  |.mapEntry ty mx my,.extract (.tmp tp) 1,.entryStore _ ex (.tmp sx) ev=>decide (tp=t.dm)&&decide (sx=t.dx)&&b9 mx t.d&&b9 my t.e&&b9 ex t.d&&b9 ev t.c&&(match P.underlying ty with
   |some (.map kt el)=>mS P kt t.kd&&(match P.info? el with
    |some i=>i.zero.isSome
    |none=>false)
   |_=>false)
  |_,_,_=>false)
 |_,_,_=>false
def ahC (P:Program) (N:Nat) (ops:Array Oper):Nat->List vZ->Bool
 |i,[]=>decide (i=ops.size)
 |i,t::r=>XU P N ops i t&&ahC P N ops (i+3) r
def fV:List vZ->List Nat
 |[]=>[]
 |t::r=>t.dm::t.dx::fV r
def jM (n:Nat) (ds:List aF) (ts:List vZ) (i:Nat):List Nat:=
 if i<n then (match ds[i]? with|some d=>d.o.op.aQ|none=>[])
 else match ts[(i - n)/3]? with
  |some t=>if (i - n)%3=0 then t.d.aQ++t.e.aQ else if (i - n)%3=1 then [t.dm] else t.d.aQ++t.c.aQ++[t.dx]
  |none=>[]
def dL (ops:Array Oper) (i:Nat):Option Nat:=(ops[i]?).bind (·.dst)
def mI (ops:Array Oper) (i j:Nat):Bool:=
 match ops[i]? with
 |some o=>(jL o).contains j
 |none=>false
def WX (P:Program) (N:Nat) (ops:Array Oper) (ds:List aF) (i:Nat):Bool:=
 match ds[i]?,ops[i]? with
 |some d,some o=>qOp d.o.op&&zZ P o.op d.o.op&&d.o.guard.isNone&&d.re.isEmpty&&decide (d.o.dst=o.dst)&&(match o.dst with
  |some t=>decide (t<N)&&!(d.o.op.aQ.contains t)
  |none=>false)
 |_,_=>false
def Ra (P:Program) (N:Nat) (ops:Array Oper) (ds:List aF) (n:Nat) (ts:List vZ):Bool:=
 P.follows .mixedOrders&&decide (ds.length=ops.size)&&decide (n<=ops.size)&&ahC P N ops n ts&&(List.range n).all (WX P N ops ds)&&ops.toList.all (·.guard.isNone)&&
  (List.range ops.size).all (fun i=>(List.range ops.size).all fun j=>
    (decide (i=j)||(match dL ops i,dL ops j with
      |some a,some b=>decide (a≠b)
      |_,_=>true))&&
    (match dL ops j with
      |some t=>!(jM n ds ts i).contains t||mI ops i j
      |none=>true))&&
  (List.range ops.size).all (fun i=>decide (i<=n)||mI ops i (i - 1))&&
  (List.range ops.size).all (fun i=>match ops[i]? with
    |some o=>(jL o).all fun j=>decide (j<i)
    |none=>true)&&ts.all (fun t=>(fV ts).all fun s=>!(t.d.aQ++t.e.aQ++t.c.aQ).contains s)
def nQ (ds:List aF):Nat:=(ds.takeWhile fun d=>qOp d.o.op&&!Ve d).length
def J5 (P:Program) (N:Nat) (ops:Array Oper) (ds:List aF):Bool:=
 match j4 (ds.drop (nQ ds)) with
 |none=>false
 |some ts=>Ra P N ops ds (nQ ds) ts
structure PR (P:Program) (N:Nat) (ops:Array Oper) (ds:List aF) (n:Nat) (ts:List vZ):Prop where
 md:P.follows .mixedOrders=true
 len:ds.length=ops.size
 le:n<=ops.size
 tri:j4 (ds.drop n)=some ts
 XV:ahC P N ops n ts=true
 q:∀ i,i<n->WX P N ops ds i=true
 gd:∀ (i:Nat) (o:Oper),ops[i]? =some o->o.guard=none
 nd:∀ i j t,dL ops i=some t->dL ops j=some t->i=j
 dep:∀ i j t,i<ops.size->dL ops j=some t->t∈jM n ds ts i->mI ops i j=true
 ch:∀ i,n<i->i<ops.size->mI ops i (i - 1)=true
 back:∀ i j,mI ops i j=true->j<i
 sl:∀ t∈ts,∀ s∈fV ts,s∉t.d.aQ/\s∉t.e.aQ/\s∉t.c.aQ
theorem lU {ops:Array Oper} {i t:Nat} (h:dL ops i=some t):i<ops.size:=by
 unfold dL at h
 cases ho:ops[i]? with
 |none=>rw [ho] at h;cases h
 |some o=>exact (Array.getElem?_eq_some_iff.1 ho).1
theorem HH {P:Program} {N:Nat} {ops:Array Oper} {ds:List aF} (h:J5 P N ops ds=true):∃ n ts,PR P N ops ds n ts:=by
 unfold J5 at h
 split at h
 · cases h
 · rename_i ts WY
   unfold Ra at h
   simp only [Bool.and_eq_true,decide_eq_true_eq,List.all_eq_true,List.mem_range] at h
   obtain ⟨⟨⟨⟨⟨⟨⟨⟨⟨h1,h2⟩,h3⟩,h4⟩,h5⟩,h6⟩,h7⟩,h8⟩,h9⟩,R3⟩:=h
   refine ⟨_,ts,h1,h2,h3,WY,h4,h5,fun i o ho=>?_,fun i j t hi hj=>?_,fun i j t hi hj ht=>?_,fun i hi hl=>?_,fun i j r6=>?_,fun t ht s hs=>?_⟩
   · have:=h6 o (by rw [Array.mem_toList_iff];exact Array.mem_of_getElem? ho)
     cases hg:o.guard with
     |none=>rfl
     |some q=>rw [hg] at this;cases this
   · have:=(h7 i (lU hi) j (lU hj)).1
     rw [hi,hj] at this
     simp only [Bool.or_eq_true,decide_eq_true_eq] at this
     rcases this with h|h
     · exact h
     · exact absurd rfl h
   · have:=(h7 i hi j (lU hj)).2
     rw [hj] at this
     simp only [Bool.or_eq_true,Bool.not_eq_true',List.contains_eq_mem,decide_eq_false_iff_not] at this
     rcases this with h|h
     · exact absurd ht h
     · exact h
   · have:=h8 i hl
     simp only [Bool.or_eq_true,decide_eq_true_eq] at this
     rcases this with h|h
     · omega
     · exact h
   · unfold mI at r6
     cases ho:ops[i]? with
     |none=>rw [ho] at r6;cases r6
     |some o=>
      rw [ho] at r6
      have:=h9 i (Array.getElem?_eq_some_iff.1 ho).1
      rw [ho] at this
      simp only [List.all_eq_true,decide_eq_true_eq] at this
      exact this j (by simpa using r6)
   · have:=R3 t ht s hs
     simpa [List.contains_eq_mem] using this
def k9 (frP:Fr) (K:St->Prop):List vZ->St->Prop
 |[],st=>K st
 |t::r,st=>∃ k es u,(t.e.ev frP).cB t.kd=true/\t.d.ev frP=.m k/\st.get k=some (.mp t.kd es)/\CS k.lH (t.c.ev frP)=some u/\k9 frP K r (st.set k (.mp t.kd (dU es (t.e.ev frP) u)))
theorem kP {α:Type} {fr:Fr} {st:St} {k:T α}:∀ {done:List aF},recheck [] done fr st k=k
 |[]=>rfl
 |p::ps=>by simp only [recheck,bK,kP (done:=ps)]
section
variable {A:aX} {K:Fr×St->Prop}
theorem Gs {st:St} {rest:List aF}:∀ {pre done:List aF} {fr:Fr},(∀ d∈pre,qOp d.o.op=true/\d.o.guard=none/\d.re=[]/\∃ t,d.o.dst=some t/\t∉d.o.op.aQ)->
 (pre.Pairwise fun d e=>d.o.dst≠e.o.dst/\∀ t,e.o.dst=some t->t∉d.o.op.aQ)->(eN done (pre++rest) fr st).wp A K->
 ∃ frP Dx,(eN Dx rest frP st).wp A K/\(∀ d∈pre,∃ v t,d.o.dst=some t/\frP.get t=v/\(step d.o.op frP st).Yields A st v)/\∀ t,(∀ d∈pre,d.o.dst≠some t)->frP.get t=fr.get t
 |[],done,fr,_,_,h=>⟨fr,done,h,fun d hd=>(by cases hd),fun t _=>rfl⟩
 |d::pre,done,fr,hq,hp,h=>by
  obtain ⟨q1,q2,q3,t,q4,q5⟩:=hq d (.head _)
  rw [List.pairwise_cons] at hp
  simp only [List.cons_append,eN,lL,q2,q3] at h
  rw [T.wp_bind] at h
  have xZ:eV d.o.op=true:=by
   cases ho:d.o.op<;>rw [ho] at q1<;>simp only [qOp,Bool.false_eq_true] at q1<;>rfl
  obtain ⟨v,hy,h⟩:=T.cU (qK xZ fr st) h
  dsimp only at h
  rw [Fr.bJ,kP] at h
  obtain ⟨frP,Dx,h1,h2,h3⟩:=Gs (pre:=pre) (fun e he=>hq e (.tail _ he)) hp.2 h
  have eK:∀ t',(∀ e∈pre,e.o.dst≠some t')->frP.get t'=if d.o.dst=some t' then v else fr.get t':=by
   intro t' ht
   rw [h3 t' ht,fD]
  refine ⟨frP,Dx,h1,fun e he=>?_,fun t' ht=>?_⟩
  · rcases List.mem_cons.1 he with rfl|he
    · refine ⟨v,t,q4,?_,?_⟩
      · rw [eK t (fun x hx e=>(hp.1 x hx).1 (by rw [q4,e])),if_pos q4]
      · rw [<-fZ (fr:=fr) (fun t' WZ=>?_) st]
        · exact hy
        · rw [eK t' (fun x hx e=>(hp.1 x hx).2 t' e WZ),if_neg (fun e=>by rw [q4] at e;cases e;exact q5 WZ)]
    · exact h2 e he
  · rw [eK t' (fun x hx=>ht x (.tail _ hx)),if_neg (ht d (.head _))]
end
open Go
theorem Dy {d:aF} (h:Ve d=true):d.o.op=.mv (.c .a8):=by
 unfold Ve at h
 split at h
 · assumption
 · cases h
theorem Dz {m x y:aF} {r:List aF} {ts:List vZ} (h:j4 (m::x::y::r)=some ts):∃ t rs,ts=t::rs/\j4 r=some rs/\m.o.dst=some t.dm/\x.o.dst=some t.dx/\y.o.dst=none/\
 m.o.op=.mv (.c .a8)/\x.o.op=.mv (.c .a8)/\y.o.op=.zO t.kd t.d t.e t.c/\m.o.guard=none/\x.o.guard=none/\y.o.guard=none/\m.re=[]/\x.re=[]/\y.re=[]:=by
 unfold j4 at h
 split at h
 · rename_i dm dx kd d e c h1 h2 h3
   split at h
   · rename_i hc
     simp only [Bool.and_eq_true,Option.isNone_iff_eq_none,List.isEmpty_iff] at hc
     obtain ⟨⟨⟨⟨⟨⟨⟨⟨c1,c2⟩,c3⟩,c4⟩,c5⟩,c6⟩,c7⟩,c8⟩,c9⟩:=hc
     cases hr:j4 r with
     |none=>rw [hr] at h;cases h
     |some rs=>
      rw [hr] at h
      simp only [Option.map_some,Option.some.injEq] at h
      exact ⟨⟨dm,dx,kd,d,e,c⟩,rs,h.symm,rfl,h1,h2,c3,Dy c1,Dy c2,h3,c4,c5,c6,c7,c8,c9⟩
   · cases h
 · cases h
theorem k9.mono {frP:Fr} {K K':St->Prop}:∀ {ts:List vZ} {st:St},k9 frP K ts st->(∀ st,K st->K' st)->k9 frP K' ts st
 |[],_,h,hk=>hk _ h
 |_::_,_,⟨k,es,u,h1,h2,h3,h4,h5⟩,hk=>⟨k,es,u,h1,h2,h3,h4,k9.mono h5 hk⟩
theorem AX {d:aF} (h1:d.o.op=.mv (.c .a8)) (h2:d.o.guard=none) (h3:d.re=[]) {done r:List aF} {fr:Fr} {st:St}:eN done (d::r) fr st=eN (d::done) r (fr.next d.o.dst .a8 []) st:=by
 simp only [eN,h1,h2,h3,lL]
 show (fr.after d.o.dst .a8 [] fun fr=>recheck [] done fr st (eN (d::done) r fr st))=_
 rw [Fr.bJ,kP]
theorem FA {d:aF} (h2:d.o.guard=none) (h3:d.re=[]) {done r:List aF} {fr:Fr} {st:St}:eN done (d::r) fr st=(step d.o.op fr st).bind fun x=>eN (d::done) r (fr.next d.o.dst x.1 []) x.2:=by
 simp only [eN,h2,h3,lL]
 congr 1
 funext x
 obtain ⟨v,s⟩:=x
 show (fr.after d.o.dst v [] fun fr=>recheck [] done fr s (eN (d::done) r fr s))=_
 rw [Fr.bJ,kP]
section
variable {A:aX} {K:Fr×St->Prop} {frP:Fr} {C:List Nat}
theorem AY:∀ (l:List aF) (ts:List vZ) (done:List aF) (Ou:Fr) (st:St) (D:List Nat),j4 l=some ts->(∀ t∈ts,(∀ s,s∈t.d.aQ\/s∈t.e.aQ\/s∈t.c.aQ->s∉C)/\t.dm∈C/\t.dx∈C)->
 (∀ s,s∉C->Ou.get s=frP.get s)->(∀ s∈D,Ou.get s=.a8)->(eN done l Ou st).wp A K->
 k9 frP (fun aR=>∃ J6,K (J6,aR)/\(∀ s,s∉C->J6.get s=frP.get s)/\∀ s,s∈D\/s∈fV ts->J6.get s=.a8) ts st
 |[],ts,done,Ou,st,D,ht,_,h1,h2,h=>by
  simp only [j4,Option.some.injEq] at ht
  subst ht
  exact ⟨Ou,h,h1,fun s hs=>hs.elim (h2 s) fun h=>by cases h⟩
 |[_],ts,done,Ou,st,D,ht,_,_,_,_=>by simp [j4] at ht
 |[_,_],ts,done,Ou,st,D,ht,_,_,_,_=>by simp [j4] at ht
 |m::x::y::r,ts,done,Ou,st,D,ht,CO,h1,h2,h=>by
  obtain ⟨t,rs,rfl,hr,e1,e2,e3,e4,e5,e6,g1,g2,g3,r1,r2,r3⟩:=Dz ht
  obtain ⟨hs,AV,hdx⟩:=CO t (.head _)
  rw [AX e4 g1 r1,AX e5 g2 r2,FA g3 r3,T.wp_bind,e6] at h
  generalize hF:Fr.next (Fr.next Ou m.o.dst .a8 []) x.o.dst .a8 []=F at h
  have eK:∀ s,F.get s=if s=t.dx then .a8 else if s=t.dm then .a8 else Ou.get s:=by
   intro s
   rw [<-hF,fD,fD,e1,e2]
   simp only [Option.some.injEq,eq_comm (b:=s)]
  have Z0:∀ s,s∉C->F.get s=frP.get s:=by
   intro s iA
   rw [eK s,if_neg (fun e:s=t.dx=>iA (e▸hdx)),if_neg (fun e:s=t.dm=>iA (e▸AV))]
   exact h1 s iA
  have ev:∀ q:aV,(∀ s∈q.aQ,s∉C)->q.ev F=q.ev frP:=fun q hq=>dG fun s iA=>Z0 s (hq s iA)
  have ed:=ev t.d fun s iA=>hs s (.inl iA)
  have ee:=ev t.e fun s iA=>hs s (.inr (.inl iA))
  have ec:=ev t.c fun s iA=>hs s (.inr (.inr iA))
  simp only [step,ed,ee,ec] at h
  split at h
  case h_2=>exact h.elim
  rename_i hO
  split at h
  case h_2=>exact h.elim
  rename_i k hk
  obtain ⟨ob,dC,h⟩:=h
  dsimp only at h
  split at h
  case h_2=>exact h.elim
  rename_i s0 es
  split at h
  case isFalse=>exact h.elim
  rename_i By
  subst By
  unfold T.opt at h
  split at h
  case h_2=>exact h.elim
  rename_i u hu
  have h:(eN (y::x::m::done) r (F.next y.o.dst (.bO []) []) (st.set k (.mp t.kd (dU es (t.e.ev frP) u)))).wp A K:=by
   exact h
  refine ⟨k,es,u,hO,hk,dC,hu,?_⟩
  have hn:∀ s,(F.next y.o.dst (.bO []) []).get s=F.get s:=fun s=>by rw [fD,e3];simp
  have ih:=AY r rs _ _ _ (t.dm::t.dx::D) hr (fun q hq=>CO q (.tail _ hq)) (fun s iA=>(hn s).trans (Z0 s iA)) (fun s iA=>by
   rw [hn s,eK s]
   split
   · rfl
   · split
     · rfl
     · rename_i q1 q2
       rcases List.mem_cons.1 iA with h'|h'
       · exact absurd h' q2
       · rcases List.mem_cons.1 h' with h'|h'
         · exact absurd h' q1
         · exact h2 s h') h
  exact k9.mono ih fun aR ⟨J6,a1,a2,a3⟩=>⟨J6,a1,a2,fun s iA=>a3 s (by
   rcases iA with h'|h'
   · exact .inl (.tail _ (.tail _ h'))
   · rcases List.mem_cons.1 h' with h'|h'
     · exact .inl (h'▸.head _)
     · rcases List.mem_cons.1 h' with h'|h'
       · exact .inl (h'▸.tail _ (.head _))
       · exact .inr h')⟩
end
open Go
def lV (n:Nat) (ops:Array Oper) (listed:Array Bool) (t:Nat):Prop:=∃ i,dL ops i=some t/\¬(i<n/\listed.getD i false=true)
inductive Ph (frP:Fr) (K:St->Prop) (E:Env) (a:Act) (w:World):Nat->List vZ->St->Prop
 |idle (ts:List vZ) (st:St):k9 frP K ts st->Ph frP K E a w 0 ts st
 |made (t:vZ) (r:List vZ) (st:St) (k:Key) (es:List (V×V)) (u:V) (val:Value) (s:Nat):(t.e.ev frP).cB t.kd=true->t.d.ev frP=.m k->st.get k=some (.mp t.kd (dU es (t.e.ev frP) .a8))->CS k.lH (t.c.ev frP)=some u->
   k9 frP K r (st.set k (.mp t.kd (dU es (t.e.ev frP) u)))->Gr w (E.μ k).aW (dU es (t.e.ev frP) .a8) (t.e.ev frP) s->a.tmps.getD t.dm undef=.tuple #[val,goInt s]->Ph frP K E a w 1 (t::r) st
 |told (t:vZ) (r:List vZ) (st:St) (k:Key) (es:List (V×V)) (u:V) (s:Nat):(t.e.ev frP).cB t.kd=true->t.d.ev frP=.m k->st.get k=some (.mp t.kd (dU es (t.e.ev frP) .a8))->CS k.lH (t.c.ev frP)=some u->
   k9 frP K r (st.set k (.mp t.kd (dU es (t.e.ev frP) u)))->Gr w (E.μ k).aW (dU es (t.e.ev frP) .a8) (t.e.ev frP) s->a.tmps.getD t.dx undef=goInt s->Ph frP K E a w 2 (t::r) st
theorem St.set_set {st:St} {k:Key} {o o':Obj}:(st.set k o).set k o'=st.set k o':=by
 have hu:∀ (l:List (Nat×Obj)) (n:Nat),aA.rF (aA.rF l n o) n o'=aA.rF l n o':=by
  intro l n
  induction l with
  |nil=>rfl
  |cons q r ih=>
   obtain ⟨j,x⟩:=q
   simp only [aA.rF]
   by_cases h:j=n
   · rw [if_pos h,if_pos h];simp only [aA.rF,if_pos h]
   · rw [if_neg h,if_neg h];simp only [aA.rF,if_neg h,ih]
 obtain ⟨⟨gn,gl⟩,⟨ln,ll⟩⟩:=st
 cases k with
 |g n=>simp only [St.set,aA.set,hu]
 |l n=>simp only [St.set,aA.set,hu]
section
variable {P:Program} {N:Nat} {ops:Array Oper} {ds:List aF} {n:Nat} {AZ:List vZ} {frP:Fr} {K:St->Prop} {E:Env} {st0:St} {w0:World} {a0:Act}
structure IV (P:Program) (N:Nat) (ops:Array Oper) (n:Nat) (AZ:List vZ) (frP:Fr) (K:St->Prop) (E:Env) (st0:St) (w0:World) (a0:Act) (listed:Array Bool) (a:Act) (w:World):Prop where
 size:a.tmps.size=N
 defers:a.defers=a0.defers
 rel:∀ t,¬lV n ops listed t->Rel E (frP.get t) (a.tmps.getD t undef)
 ch:∃ (i ph q:Nat) (ts:List vZ) (st:St),i=n+3*q/\ts=AZ.drop q/\ahC P N ops i ts=true/\(∀ j,n<=j->j<ops.size->(listed.getD j false=true↔j<i+ph))/\Ph frP K E a w ph ts st/\bC E st w/\Ext E st0 w0 E st w/\x8 st0 st
def J7 (n:Nat) (ops:Array Oper) (listed:Array Bool):List Nat:=(List.range ops.size).filterMap fun i=>if decide (i<n)&&listed.getD i false then none else dL ops i
theorem x9 {n:Nat} {ops:Array Oper} {listed:Array Bool} {t:Nat}:t∈J7 n ops listed↔lV n ops listed t:=by
 unfold J7 lV
 rw [List.mem_filterMap]
 constructor
 · rintro ⟨i,hi,h⟩
   split at h
   · cases h
   · rename_i hc
     exact ⟨i,h,fun hh=>hc (by simp [hh.1,hh.2])⟩
 · rintro ⟨i,h,hc⟩
   refine ⟨i,List.mem_range.2 (lU h),?_⟩
   rw [if_neg (fun hh=>hc (by simpa using hh))]
   exact h
theorem IV.frame {listed:Array Bool} {a:Act} {w:World} (h:IV P N ops n AZ frP K E st0 w0 a0 listed a w):aJ E N (frP.gR (J7 n ops listed)) a:=by
 refine ⟨h.size,fun t=>?_⟩
 rw [Fr.cR]
 split
 · exact .a8 _
 · rename_i hm
   rw [bG,x9] at hm
   exact h.rel t hm
theorem sC {listed:Array Bool} {q:aV} (h:∀ s∈q.aQ,¬lV n ops listed s):q.ev (frP.gR (J7 n ops listed))=q.ev frP:=
 dG fun s hs=>by
  rw [Fr.cR,if_neg]
  rw [bG,x9]
  exact h s hs
theorem PR.listed (hp:PR P N ops ds n AZ) {listed:Array Bool} {i:Nat} (hi:i∈Region.ready .any ops listed) {s:Nat} (hs:s∈jM n ds AZ i) {j:Nat} (hj:dL ops j=some s):listed.getD j false=true:=by
 obtain ⟨Ac,o,ho,x6⟩:=mem_ready.1 hi
 have he:=hp.dep i j s (Array.getElem?_eq_some_iff.1 ho).1 hj hs
 unfold mI at he
 rw [ho] at he
 simp only [jL,List.contains_eq_mem,List.mem_map,List.mem_filter,decide_eq_true_eq] at he
 obtain ⟨e,⟨h1,h2⟩,rfl⟩:=he
 exact x6 e (Array.mem_toList_iff.1 h1) h2
theorem PR.ahead (hp:PR P N ops ds n AZ) {listed:Array Bool} {i:Nat} (hi:i∈Region.ready .any ops listed) (hn:n<i):listed.getD (i - 1) false=true:=by
 obtain ⟨Ac,o,ho,x6⟩:=mem_ready.1 hi
 have he:=hp.ch i hn (Array.getElem?_eq_some_iff.1 ho).1
 unfold mI at he
 rw [ho] at he
 simp only [jL,List.contains_eq_mem,List.mem_map,List.mem_filter,decide_eq_true_eq] at he
 obtain ⟨e,⟨h1,h2⟩,h3⟩:=he
 have:=x6 e (Array.mem_toList_iff.1 h1) h2
 rwa [h3] at this
theorem PR.all (hp:PR P N ops ds n AZ) {listed:Array Bool} (qP:listed.size=ops.size) (hr:Region.ready .any ops listed=[]):∀ i,i<ops.size->listed.getD i false=true:=by
 intro i
 induction i using Nat.strongRecOn with
 |_ i ih=>
  intro hi
  cases hq:listed.getD i true with
  |true=>
   simp only [Array.getD_eq_getD_getElem?] at hq ⊢
   have:i<listed.size:=by omega
   simp [this] at hq ⊢;exact hq
  |false=>
   have:i∈Region.ready .any ops listed:=mem_ready.2 ⟨hq,ops[i],by simp [hi],fun e he hb=>by
    have cQ:e.on<i:=hp.back i e.on (by
     unfold mI
     rw [Array.getElem?_eq_getElem hi]
     simp only [jL,List.contains_eq_mem,List.mem_map,List.mem_filter,decide_eq_true_eq]
     exact ⟨e,⟨by rw [Array.mem_toList_iff];exact he,hb⟩,rfl⟩)
    exact ih e.on cQ (by omega)⟩
   rw [hr] at this
   cases this
end
open Go
theorem nP {P:Program} {N:Nat} {ops:Array Oper} {i:Nat} {t:vZ} (h:XU P N ops i t=true):∃ om ox oy ty mx my tx ex ev kt el,ops[i]? =some om/\ops[i+1]? =some ox/\ops[i+2]? =some oy/\om.dst=some t.dm/\ox.dst=some t.dx/\oy.dst=none/\t.dm<N/\t.dx<N/\
 om.op=.mapEntry ty mx my/\ox.op=.extract (.tmp t.dm) 1/\oy.op=.entryStore tx ex (.tmp t.dx) ev/\b9 mx t.d=true/\b9 my t.e=true/\b9 ex t.d=true/\b9 ev t.c=true/\P.underlying ty=some (.map kt el)/\mS P kt t.kd=true/\∃ f z,P.info? el=some f/\f.zero=some z:=by
 unfold XU at h
 split at h
 · rename_i om ox oy h1 h2 h3
   simp only [Bool.and_eq_true,decide_eq_true_eq,Option.isNone_iff_eq_none] at h
   obtain ⟨⟨⟨⟨⟨g1,g2⟩,g3⟩,g4⟩,g5⟩,h⟩:=h
   split at h
   · rename_i ty mx my tp tx ex sx ev o1 o2 o3
     simp only [Bool.and_eq_true,decide_eq_true_eq] at h
     obtain ⟨⟨⟨⟨⟨⟨q1,q2⟩,q3⟩,q4⟩,q5⟩,q6⟩,h⟩:=h
     subst q1 q2
     split at h
     · rename_i kt el hu
       simp only [Bool.and_eq_true] at h
       obtain ⟨k1,h⟩:=h
       split at h
       · rename_i f hf
         obtain ⟨z,hz⟩:=Option.isSome_iff_exists.1 h
         exact ⟨om,ox,oy,ty,mx,my,tx,ex,ev,kt,el,h1,h2,h3,g1,g2,g3,g4,g5,o1,o2,o3,q3,q4,q5,q6,hu,k1,f,z,hf,hz⟩
       · cases h
     · cases h
   · cases h
 · cases h
theorem yA {P:Program} {N:Nat} {ops:Array Oper}:∀ {ts:List vZ} {i j s:Nat},ahC P N ops i ts=true->i<=j->dL ops j=some s->s∈fV ts
 |[],i,j,s,h,hj,hd=>by
  simp only [ahC,decide_eq_true_eq] at h
  have:=lU hd
  omega
 |t::r,i,j,s,h,hj,hd=>by
  simp only [ahC,Bool.and_eq_true] at h
  obtain ⟨om,ox,oy,_,_,_,_,_,_,_,_,h1,h2,h3,g1,g2,g3,_⟩:=nP h.1
  rcases (show j=i\/j=i+1\/j=i+2\/i+3<=j by omega) with rfl|rfl|rfl|hj3
  · simp only [dL,h1,Option.bind_some,g1,Option.some.injEq] at hd
    subst hd;exact .head _
  · simp only [dL,h2,Option.bind_some,g2,Option.some.injEq] at hd
    subst hd;exact .tail _ (.head _)
  · simp [dL,h3,g3] at hd
  · exact .tail _ (.tail _ (yA h.2 hj3 hd))
section
variable {P:Program} {N:Nat} {ops:Array Oper} {ds:List aF} {n:Nat} {AZ:List vZ} {frP:Fr} {K:St->Prop} {E:Env} {st0:St} {w0:World} {a0:Act} {Q:Exit->Act->World->Prop}
theorem HI (hp:PR P N ops ds n AZ) {listed:Array Bool} {i s:Nat} (hi:n<=i) (hd:dL ops i=some s):lV n ops listed s:=⟨i,hd,fun h=>by omega⟩
theorem Gt {listed:Array Bool} {i s:Nat} (qP:listed.size=ops.size) (Ov:i<ops.size) (h:lV n ops listed s) (cO:i<n->dL ops i≠some s):lV n ops (listed.setIfInBounds i true) s:=by
 obtain ⟨j,h1,h2⟩:=h
 refine ⟨j,h1,fun hh=>h2 ⟨hh.1,?_⟩⟩
 by_cases r6:i=j
 · subst r6;exact absurd h1 (cO hh.1)
 · have:=hh.2
   simp only [Array.getD_eq_getD_getElem?] at this ⊢
   rwa [Array.getElem?_setIfInBounds_ne r6] at this
theorem yB {listed:Array Bool} {i j:Nat} (Ov:i<listed.size):(listed.setIfInBounds i true).getD j false=true↔j=i\/listed.getD j false=true:=by
 by_cases h:i=j
 · subst h
   simp [Array.getD_eq_getD_getElem?,Ov]
 · simp only [Array.getD_eq_getD_getElem?]
   rw [Array.getElem?_setIfInBounds_ne h]
   exact ⟨.inr,fun hh=>hh.elim (fun e=>absurd e.symm h) id⟩
theorem Vf {o:Oper} {a:Act} (hg:o.guard=none):Region.wanted o (yielded ops a.tmps)=true:=by simp [Region.wanted,hg]
theorem HJ (hp:PR P N ops ds n AZ) (FB:∀ i d,i<n->ds[i]? =some d->∃ v t,d.o.dst=some t/\frP.get t=v/\(step d.o.op frP st0).Yields (aB P) st0 v) {listed:Array Bool} {a:Act} {w:World} (qP:listed.size=ops.size)
 (h:IV P N ops n AZ frP K E st0 w0 a0 listed a w) {i:Nat} (hi:i∈Region.ready .any ops listed):wpOp P ops Q i (fun a1 w1=>IV P N ops n AZ frP K E st0 w0 a0 (listed.setIfInBounds i true) a1 w1) a w:=by
 obtain ⟨Ac,o,ho,_⟩:=mem_ready.1 hi
 have Ov:i<ops.size:=(Array.getElem?_eq_some_iff.1 ho).1
 have QT:i<listed.size:=by omega
 have XW:¬listed.getD i false=true:=by
  simp only [Array.getD_eq_getD_getElem?] at Ac ⊢
  simp [QT] at Ac ⊢;exact Ac
 unfold wpOp
 simp only [ho]
 rw [if_pos (Vf (hp.gd i o ho))]
 refine .inl ?_
 have DA:=h.frame
 obtain ⟨i0,ph,q,ts,st,c1,c2,c3,c4,c5,c6,c7,c8⟩:=h.ch
 by_cases kN:i<n
 · -- a quiet one
   have hq:=hp.q i kN
   unfold WX at hq
   cases hd:ds[i]? with
   |none=>rw [hd] at hq;cases hq
   |some d=>
    rw [hd,ho] at hq
    simp only [Bool.and_eq_true,decide_eq_true_eq] at hq
    obtain ⟨⟨⟨⟨⟨q1,q2⟩,q3⟩,q4⟩,q5⟩,q6⟩:=hq
    obtain ⟨v,t,v1,v2,v3⟩:=FB i d kN hd
    have Sf:o.dst=some t:=by rw [<-q5];exact v1
    have Ue:dL ops i=some t:=by simp [dL,ho,Sf]
    rw [Sf] at q6
    simp only [Bool.and_eq_true,decide_eq_true_eq] at q6
    have W0:∀ s∈d.o.op.aQ,¬lV n ops listed s:=by
     rintro s hs ⟨j,hj,J8⟩
     have CO:s∈jM n ds AZ i:=by unfold jM;rw [if_pos kN,hd];exact hs
     have XX:=hp.listed hi CO hj
     have:=hp.back i j (hp.dep i j s Ov hj CO)
     exact J8 ⟨by omega,XX⟩
    have hy:=Vd q1 c8 v3
    rw [<-fZ (fr:=frP.gR (J7 n ops listed)) (fun s hs=>by rw [Fr.cR,if_neg];rw [bG,x9];exact W0 s hs) st] at hy
    refine Vb q1 q2 c6 DA hy fun x hx=>⟨by rw [j3];exact h.size,by rw [put_defers];exact h.defers,fun s hs=>?_,i0,ph,q,ts,st,c1,c2,c3,fun j hj vX=>?_,?_,c6,c7,c8⟩
    · by_cases wK:s=t
      · subst wK
        rw [Sf,fT (by rw [h.size];exact q6.1),v2]
        exact hx
      · rw [j2 (by rw [Sf];simpa using Ne.symm wK)]
        exact h.rel s fun hb=>hs (Gt qP Ov hb fun _=>by rw [Ue];simpa using Ne.symm wK)
    · rw [yB QT,c4 j hj vX]
      constructor
      · rintro (h1|h1)
        · omega
        · exact h1
      · exact .inr
    · have lM:∀ s,s∈fV ts->(∃ j,n<=j/\dL ops j=some s)->(a.put o.dst x).tmps.getD s undef=a.tmps.getD s undef:=by
       rintro s _ ⟨j,hj,XY⟩
       refine j2 ?_
       rw [Sf]
       intro e
       cases e
       have:=hp.nd i j t Ue XY
       omega
      cases c5 with
      |idle _ _ hT=>exact .idle _ _ hT
      |made t' r _ k es u val s b1 b2 b3 b4 b5 b6 b7=>
       simp only [ahC,Bool.and_eq_true] at c3
       obtain ⟨om,ox,oy,_,_,_,_,_,_,_,_,h1,h2,h3,g1,g2,g3,_⟩:=nP c3.1
       refine .made t' r _ k es u val s b1 b2 b3 b4 b5 b6 ?_
       rw [lM t'.dm (.head _) ⟨i0,by omega,by simp [dL,h1,g1]⟩];exact b7
      |told t' r _ k es u s b1 b2 b3 b4 b5 b6 b7=>
       simp only [ahC,Bool.and_eq_true] at c3
       obtain ⟨om,ox,oy,_,_,_,_,_,_,_,_,h1,h2,h3,g1,g2,g3,_⟩:=nP c3.1
       refine .told t' r _ k es u s b1 b2 b3 b4 b5 b6 ?_
       rw [lM t'.dx (.tail _ (.head _)) ⟨i0+1,by omega,by simp [dL,h2,g2]⟩];exact b7
 · -- one of EI chain
   have kN:n<=i:=by omega
   have xG:i=i0+ph:=by
    have h1:¬i<i0+ph:=fun hh=>XW ((c4 i kN Ov).2 hh)
    rcases Nat.lt_or_ge (i0+ph) i with h2|h2
    · have h3:=hp.ahead hi (show n<i by omega)
      have:=(c4 (i - 1) (by omega) (by omega)).1 h3
      omega
    · omega
   have J9:∀ j,n<=j->j<ops.size->((listed.setIfInBounds i true).getD j false=true↔j<i0+(ph+1)):=by
    intro j hj vX
    rw [yB QT,c4 j hj vX]
    omega
   have Vg:∀ s,(∀ j,n<=j->dL ops j≠some s)->s∈jM n ds AZ i->¬lV n ops listed s:=by
    rintro s HF IP ⟨j,hj,J8⟩
    have XX:=hp.listed hi IP hj
    rcases Nat.lt_or_ge j n with h1|h1
    · exact J8 ⟨h1,XX⟩
    · exact HF j h1 hj
   have WC:(i - n)/3=q+ph/3/\(i - n)%3=ph%3:=by omega
   cases WY:ts with
   |nil=>
    rw [WY] at c3 c5
    simp only [ahC,decide_eq_true_eq] at c3
    cases c5
    omega
   |cons t r=>
    rw [WY] at c3 c5 c2
    have XZ:=c3
    simp only [ahC,Bool.and_eq_true] at c3
    obtain ⟨om,ox,oy,ty,mx,my,tx,ex,ev,kt,el,h1,h2,h3,g1,g2,g3,n1,n2,o1,o2,o3,x1,x2,x3,x4,u1,u2,inf⟩:=nP c3.1
    have Vh:AZ[q]? =some t:=by
     have:=congrArg (·[0]?) c2
     simp only [List.getElem?_drop,List.getElem?_cons_zero,Nat.add_zero] at this
     exact this.symm
    have htm:t∈AZ:=List.mem_of_getElem? Vh
    have Z1:∀ s,s∈t.d.aQ\/s∈t.e.aQ\/s∈t.c.aQ->∀ j,n<=j->dL ops j≠some s:=by
     intro s hs j hj XY
     have OR:=yA hp.XV hj XY
     obtain ⟨z1,z2,z3⟩:=hp.sl t htm s OR
     rcases hs with hs|hs|hs
     · exact z1 hs
     · exact z2 hs
     · exact z3 hs
    have Sg:∀ (o':Oper) (x:Value),(o'.dst=none\/∃ s,o'.dst=some s/\dL ops i=some s)->∀ s,¬lV n ops (listed.setIfInBounds i true) s->Rel E (frP.get s) ((a.put o'.dst x).tmps.getD s undef):=by
     intro o' x Of s hs
     have W0:¬lV n ops listed s:=fun hb=>hs (Gt qP Ov hb fun hh=>by omega)
     rw [j2]
     · exact h.rel s W0
     · rcases Of with e|⟨s',e,hd⟩
       · rw [e];simp
       · rw [e]
         intro e2
         cases e2
         exact W0 (HI hp kN hd)
    cases c5 with
    |idle _ _ hT=>
     have Vi:i=i0:=xG
     subst Vi
     rw [ho] at h1;cases h1
     obtain ⟨k,es,u,b1,b2,b3,b4,b5⟩:=hT
     have CO:∀ s,s∈t.d.aQ\/s∈t.e.aQ->¬lV n ops listed s:=fun s hs=>Vg s (Z1 s (hs.elim .inl fun h=>.inr (.inl h))) (by
      unfold jM
      rw [if_neg (by omega),show (i - n)/3=q by omega,Vh]
      simp only [show (i - n)%3=0 by omega,if_true,List.mem_append]
      exact hs)
     have r1:=aH x1 DA
     rw [sC fun s hs=>CO s (.inl hs),b2] at r1
     have r2:=aH x2 DA
     rw [sC fun s hs=>CO s (.inr hs)] at r2
     obtain ⟨val,s,w',e1,e2,e3,e4⟩:=J4 o1 u1 u2 inf c6 r1 r2 b1 b3
     refine aG e1 ⟨by rw [j3];exact h.size,by rw [put_defers];exact h.defers,Sg o _ (.inr ⟨t.dm,g1,by simp [dL,ho,g1]⟩),i,1,q,t::r,_,c1,c2,XZ,fun j hj vX=>(J9 j hj vX),?_,e2,c7.trans e3,c8.set b3 _⟩
     refine .made t r _ k es u val s b1 b2 (by rw [St.rN,if_pos rfl,b3];rfl) b4 (by rw [St.set_set];exact b5) e4 ?_
     rw [g1,fT (by rw [h.size];exact n1)]
    |made _ _ _ k es u val s b1 b2 b3 b4 b5 b6 b7=>
     have Vi:i=i0+1:=xG
     rw [<-Vi,ho] at h2;cases h2
     refine aG (x:=goInt s) (w':=w) (by simp [execOp,o2,Act.eval,b7,Instr.extract]) ⟨by rw [j3];exact h.size,by rw [put_defers];exact h.defers,Sg o _ (.inr ⟨t.dx,g2,by simp [dL,ho,g2]⟩),i0,2,q,t::r,_,c1,c2,XZ,fun j hj vX=>(J9 j hj vX),?_,c6,c7,c8⟩
     refine .told t r _ k es u s b1 b2 b3 b4 b5 b6 ?_
     rw [g2,fT (by rw [h.size];exact n2)]
    |told _ _ _ k es u s b1 b2 b3 b4 b5 b6 b7=>
     have Vi:i=i0+2:=xG
     rw [<-Vi,ho] at h3;cases h3
     have CO:∀ s,s∈t.d.aQ\/s∈t.c.aQ->¬lV n ops listed s:=fun s hs=>Vg s (Z1 s (hs.elim .inl fun h=>.inr (.inr h))) (by
      unfold jM
      rw [if_neg (by omega),show (i - n)/3=q by omega,Vh]
      simp only [show (i - n)%3=2 by omega]
      rw [if_neg (by omega),if_neg (by omega)]
      simp only [List.mem_append]
      exact .inl hs)
     have r1:=aH x3 DA
     rw [sC fun s hs=>CO s (.inl hs),b2] at r1
     have r3:=aH x4 DA
     rw [sC fun s hs=>CO s (.inr hs)] at r3
     have r3:=De b4 r3
     rw [<-Env.nC] at r3
     obtain ⟨w',e1,e2,e3⟩:=OS o3 c6 r1 (by simpa [Act.eval] using b7) r3 b1 b3 b6
     refine w7 e1 ⟨by rw [j3];exact h.size,by rw [put_defers];exact h.defers,Sg o _ (.inl g3),i0+3,0,q+1,r,_,by omega,?_,c3.2,fun j hj vX=>?_,.idle _ _ b5,e2,c7.trans e3,c8.set b3 _⟩
     · have:=congrArg (·.drop 1) c2
       simp only [List.drop_succ_cons,List.drop_zero,List.drop_drop] at this
       exact this
     · rw [J9 j hj vX]
end
open Go
section
variable {P:Program} {N:Nat} {ops:Array Oper} {ds:List aF} {n:Nat} {AZ:List vZ} {frP:Fr} {K:St->Prop} {E:Env} {st0:St} {w0:World} {a0:Act} {Q:Exit->Act->World->Prop}
def Rb (ops:Array Oper):List aF:=(List.range ops.size).map fun i=>{ (default:aF) with ix:=i }
theorem HK:((Rb ops).map (·.ix)).Nodup:=by
 unfold Rb
 rw [List.map_map]
 have:((fun x:aF=>x.ix) ∘ fun i=>{ (default:aF) with ix:=i })=id:=rfl
 rw [this,List.map_id]
 exact List.nodup_range
theorem Gu {i:Nat} (h:i<ops.size):{ (default:aF) with ix:=i }∈Rb ops:=List.mem_map.2 ⟨i,List.mem_range.2 h,rfl⟩
theorem Ka (hp:PR P N ops ds n AZ) (FB:∀ i d,i<n->ds[i]? =some d->∃ v t,d.o.dst=some t/\frP.get t=v/\(step d.o.op frP st0).Yields (aB P) st0 v)
 (hQ:∀ listed a w,IV P N ops n AZ frP K E st0 w0 a0 listed a w->(∀ i,i<ops.size->listed.getD i false=true)->Q .normal a w):
 ∀ (fuel:Nat) {listed:Array Bool} {a:Act} {w:World},IV P N ops n AZ frP K E st0 w0 a0 listed a w->listed.size=ops.size->dX listed (Rb ops)<=fuel->wpAny P .any ops Q fuel listed a w:=by
 intro fuel
 induction fuel with
 |zero=>
  intro listed a w h qP hc
  have xL:=mE (listed:=listed) (l:=Rb ops) (by omega)
  have hr:Region.ready .any ops listed=[]:=by
   rw [List.eq_nil_iff_forall_not_mem]
   intro i hi
   obtain ⟨Ac,o,ho,_⟩:=mem_ready.1 hi
   exact xL _ (Gu (Array.getElem?_eq_some_iff.1 ho).1) Ac
  exact ⟨hr,hQ _ _ _ h (hp.all qP hr)⟩
 |succ fuel ih=>
  intro listed a w h qP hc
  refine ⟨fun hr=>hQ _ _ _ h (hp.all qP hr),fun i hi=>?_⟩
  refine wpOp_mono (fun a1 w1 h1=>?_) (HJ hp FB qP h hi)
  obtain ⟨Ac,o,ho,_⟩:=mem_ready.1 hi
  have Ov:=(Array.getElem?_eq_some_iff.1 ho).1
  refine ih h1 (by simpa using qP) ?_
  have:=nO (d:={ (default:aF) with ix:=i }) (listed:=listed) (by simpa [qP] using Ov) Ac HK (Gu Ov)
  dsimp only at this
  omega
end
theorem pair_ok {P:Program} {N:Nat} {ops:Array Oper} {ds:List aF} (hk:J5 P N ops ds=true) {id:Nat} {E:Env} {st:St} {w:World} {fr:Fr} {a:Act} {K:Fr×St->Prop} {Q:Exit->Act->World->Prop} (hs:bC E st w) (hf:aJ E N fr a)
 (hw:(eN [] ds fr st).wp (aB P) K)
 (hQ:∀ bH aR E' a' w',K (bH,aR)->bC E' aR w'->Ext E st w E' aR w'->aJ E' N bH a'->a'.defers=a.defers->Q .normal a' w'):
 (Code.region id ops true).wp P Q a w:=by
 obtain ⟨n,ts,hp⟩:=HH hk
 refine wp_region_any hp.md ?_
 have ZT:=hp.len
 have hle:=hp.le
 have W1:∀ i,i<n->∃ d o t,ds[i]? =some d/\ops[i]? =some o/\qOp d.o.op=true/\d.o.guard=none/\d.re=[]/\d.o.dst=some t/\o.dst=some t/\t∉d.o.op.aQ:=by
  intro i hi
  have hq:=hp.q i hi
  unfold WX at hq
  have hd:ds[i]? =some ds[i]:=List.getElem?_eq_getElem (by omega)
  have ho:ops[i]? =some ops[i]:=Array.getElem?_eq_getElem (by omega)
  rw [hd,ho] at hq
  simp only [Bool.and_eq_true,decide_eq_true_eq,Option.isNone_iff_eq_none,List.isEmpty_iff] at hq
  obtain ⟨⟨⟨⟨⟨q1,q2⟩,q3⟩,q4⟩,q5⟩,q6⟩:=hq
  cases Uc:ops[i].dst with
  |none=>rw [Uc] at q6;cases q6
  |some t=>
   rw [Uc] at q6
   simp only [Bool.and_eq_true,decide_eq_true_eq,Bool.not_eq_true',List.contains_eq_mem,decide_eq_false_iff_not] at q6
   exact ⟨_,_,t,hd,ho,q1,q3,q4,by rw [q5,Uc],Uc,q6.2⟩
 have Si:ds=ds.take n++ds.drop n:=(List.take_append_drop n ds).symm
 rw [Si] at hw
 obtain ⟨frP,Dx,w1,w2,w3⟩:=Gs (pre:=ds.take n) (by
  intro d hd
  obtain ⟨i,hi,rfl⟩:=List.mem_iff_getElem.1 hd
  simp only [List.length_take] at hi
  obtain ⟨d',o,t,z1,z2,z3,z4,z5,z6,z7,z8⟩:=W1 i (by omega)
  rw [List.getElem_take]
  rw [List.getElem?_eq_getElem (by omega)] at z1
  cases z1
  exact ⟨z3,z4,z5,t,z6,z8⟩) (by
  rw [List.pairwise_iff_getElem]
  intro i j hi hj r6
  simp only [List.length_take] at hi hj
  obtain ⟨d',o,t,z1,z2,z3,z4,z5,z6,z7,z8⟩:=W1 i (by omega)
  obtain ⟨d'',o',t',y1,y2,y3,y4,y5,y6,y7,y8⟩:=W1 j (by omega)
  rw [List.getElem_take,List.getElem_take]
  rw [List.getElem?_eq_getElem (by omega)] at z1 y1
  cases z1;cases y1
  have di:dL ops i=some t:=by simp [dL,z2,z7]
  have dj:dL ops j=some t':=by simp [dL,y2,y7]
  refine ⟨fun e=>?_,fun s hs IP=>?_⟩
  · rw [z6,y6] at e
    cases e
    have:=hp.nd i j t di dj
    omega
  · rw [y6] at hs
    cases hs
    have:=hp.back i j (hp.dep i j t' (by omega) dj (by
     unfold jM
     rw [if_pos (by omega),List.getElem?_eq_getElem (by omega)]
     exact IP))
    omega) hw
 have hC:=AY (C:=fV ts) (frP:=frP) _ ts Dx frP st [] hp.tri (fun t ht=>⟨fun s hs hc=>by
  obtain ⟨z1,z2,z3⟩:=hp.sl t ht s hc
  rcases hs with h|h|h
  · exact z1 h
  · exact z2 h
  · exact z3 h,by
  have:∀ {l:List vZ},t∈l->t.dm∈fV l/\t.dx∈fV l:=by
   intro l
   induction l with
   |nil=>intro h;cases h
   |cons q r ih=>
    intro h
    rcases List.mem_cons.1 h with rfl|h
    · exact ⟨.head _,.tail _ (.head _)⟩
    · exact ⟨.tail _ (.tail _ (ih h).1),.tail _ (.tail _ (ih h).2)⟩
  exact this ht⟩) (fun _ _=>rfl) (fun s h=>by cases h) w1
 have FB:∀ i d,i<n->ds[i]? =some d->∃ v t,d.o.dst=some t/\frP.get t=v/\(step d.o.op frP st).Yields (aB P) st v:=by
  intro i d hi hd
  refine w2 d ?_
  rw [List.mem_iff_getElem?]
  exact ⟨i,by rw [List.getElem?_take,if_pos hi];exact hd⟩
 refine Ka (E:=E) (st0:=st) (w0:=w) (a0:=a) hp FB (K:=fun aR=>∃ J6,K (J6,aR)/\(∀ s,s∉fV ts->J6.get s=frP.get s)/\∀ s,s∈[]\/s∈fV ts->J6.get s=.a8) ?_ ops.size ?_ (by simp) ?_
 · intro listed a' w' h vU
   obtain ⟨i0,ph,q,ts',aR,c1,c2,c3,c4,c5,c6,c7,c8⟩:=h.ch
   cases ts' with
   |cons t r=>
    have XZ:=c3
    simp only [ahC,Bool.and_eq_true] at c3
    obtain ⟨om,ox,oy,_,_,_,_,_,_,_,_,h1,h2,h3,_⟩:=nP c3.1
    have cQ:=(Array.getElem?_eq_some_iff.1 h3).1
    have:=(c4 (i0+2) (by omega) cQ).1 (vU _ cQ)
    cases c5<;>omega
   |nil=>
    cases c5 with
    |idle _ _ hT=>
     obtain ⟨J6,k1,k2,k3⟩:=hT
     refine hQ J6 aR E a' w' k1 c6 c7 ⟨h.size,fun t=>?_⟩ h.defers
     by_cases ht:t∈fV ts
     · rw [k3 t (.inr ht)];exact .a8 _
     · rw [k2 t ht]
       refine h.rel t ?_
       rintro ⟨j,hj,J8⟩
       rcases Nat.lt_or_ge j n with h1|h1
       · exact J8 ⟨h1,vU j (lU hj)⟩
       · exact ht (yA hp.XV h1 hj)
 · refine ⟨hf.size,rfl,fun t ht=>?_,n,0,0,ts,st,rfl,rfl,hp.XV,fun j hj vX=>?_,.idle _ _ hC,hs.of_heap (w:=w) (w':={ w with drawn:=w.drawn+1 }) rfl,Ext.drawn (w.drawn+1),fun k ob h _=>h⟩
   · rw [w3 t fun d hd e=>?_]
     · exact hf.rel t
     · obtain ⟨i,hi,rfl⟩:=List.mem_iff_getElem.1 hd
       simp only [List.length_take] at hi
       rw [List.getElem_take] at e
       obtain ⟨d',o,t',z1,z2,z3,z4,z5,z6,z7,z8⟩:=W1 i (by omega)
       rw [List.getElem?_eq_getElem (by omega)] at z1
       cases z1
       rw [z6] at e
       cases e
       exact ht ⟨i,by simp [dL,z2,z7],fun hh=>by
        have:=hh.2
        simp [Array.getD_eq_getD_getElem?,show i<ops.size by omega] at this⟩
   · simp [Array.getD_eq_getD_getElem?,vX]
     omega
 · have:∀ l:List aF,dX (Array.replicate ops.size false) l<=l.length:=qQ _
   have h2:=this (Rb ops)
   have h3:(Rb ops).length=ops.size:=by simp [Rb]
   omega
theorem drawP_ok {P:Program} {N:Nat} {ops:Array Oper} {ds:List aF} (hk:tH P N ops ds=true\/J5 P N ops ds=true) {id:Nat} {E:Env} {st:St} {w:World} {fr:Fr} {a:Act} {K:Fr×St->Prop} {Q:Exit->Act->World->Prop} (hs:bC E st w) (hf:aJ E N fr a)
 (hw:(eN [] ds fr st).wp (aB P) K)
 (hQ:∀ bH aR E' a' w',K (bH,aR)->bC E' aR w'->Ext E st w E' aR w'->aJ E' N bH a'->a'.defers=a.defers->Q .normal a' w'):
 (Code.region id ops true).wp P Q a w:=
 hk.elim (fun h=>draw_ok h hs hf hw hQ) fun h=>pair_ok h hs hf hw hQ
end Go.Eng
