/-
A state's entries.
-/
import Derived.Test.YtmfelikepmmjkaaGreatY43
import Derived.Test.YtmfelikepmmjkaaGreatY44
import Derived.Test.YtmfelikepmmjkaaGreatY47
import Derived.Test.YtmfelikepmmjkaaGreatY22
import Derived.Test.YtmfelikepmmjkaaGreatY23
import Derived.Test.YtmfelikepmmjkaaGreatY33
import Derived.Test.YtmfelikepmmjkaaGreatY09
import Derived.Test.YtmfelikepmmjkaaGreatY39
import Derived.Test.YtmfelikepmmjkaaGreatY41
import Derived.Test.YtmfelikepmmjkaaGreatY46
import Derived.Test.YtmfelikepmmjkaaGreatY24
import Derived.Test.YtmfelikepmmjkaaGreatY40
set_option linter.unusedVariables false
set_option linter.unusedSimpArgs false
set_option maxHeartbeats 16000000
set_option maxRecDepth 10000
namespace Go.Eng
open Go
def tJ:Nat->List cI->List dJ
 |_,[]=>[]
 |i,n::r=>⟨eF n.name,1+i,dQ n⟩::tJ (i+1) r
def sZ:Nat->List aO->List dJ
 |_,[]=>[]
 |i,p::r=>⟨b7 p.name,20+i,bW p⟩::sZ (i+1) r
theorem Gs:∀ {l:List cI} {i k:Nat} {e:cI},l[i]? =some e->tJ k (l.take (i+1))=tJ k (l.take i)++[⟨eF e.name,1+(k+i:Nat),dQ e⟩]
 |[],i,k,e,h=>by simp at h
 |n::r,0,k,e,h=>by
  simp at h;subst h
  simp [tJ]
 |n::r,i+1,k,e,h=>by
  rw [List.take_succ_cons,List.take_succ_cons,tJ,tJ,Gs (l:=r) (i:=i) (k:=k+1) (by simpa using h),List.cons_append]
  rw [show k+1+i=k+(i+1) by omega]
theorem Gt:∀ {l:List aO} {i k:Nat} {e:aO},l[i]? =some e->sZ k (l.take (i+1))=sZ k (l.take i)++[⟨b7 e.name,20+(k+i:Nat),bW e⟩]
 |[],i,k,e,h=>by simp at h
 |n::r,0,k,e,h=>by
  simp at h;subst h
  simp [sZ]
 |n::r,i+1,k,e,h=>by
  rw [List.take_succ_cons,List.take_succ_cons,sZ,sZ,Gt (l:=r) (i:=i) (k:=k+1) (by simpa using h),List.cons_append]
  rw [show k+1+i=k+(i+1) by omega]
theorem vG:∀ (l:List cI) (k:Nat),(tJ k l).length=l.length
 |[],_=>rfl
 |_::r,k=>by rw [tJ,List.length_cons,vG r];rfl
theorem AB:∀ (l:List aO) (k:Nat),(sZ k l).length=l.length
 |[],_=>rfl
 |_::r,k=>by rw [sZ,List.length_cons,AB r];rfl
def qS (s:eG):List dJ:=tJ 0 s.nodes++sZ 0 s.aF
theorem M6 {n:cI} (h:HP n=true):MW n:=by
 have hm:=CS h
 unfold HP at h
 simp only [Bool.and_eq_true] at h
 obtain ⟨h1,_,⟨h2,_⟩,h3,_⟩:=h
 exact ⟨by have:=(iC h1).2;omega,by omega,fun q hq=>by have:=pairsB_ok h2 q hq;exact ⟨by have:=this.1.1;omega,by have:=this.2.1;omega⟩,by omega,fun q hq=>by have:=pairsB_ok h3 q hq;exact ⟨by have:=this.1.1;omega,by have:=this.2.1;omega⟩⟩
theorem EG {p:aO} (h:j0 p=true):qR p:=by
 have hm:=AA h
 have tl:∀ {l:List cM},fI l=true->vC l:=fun {l} h=>by
  have h2:=termsB_ok h
  exact ⟨by omega,fun t ht=>by
   have h3:=h2.2 t ht
   unfold fI at h
   simp only [Bool.and_eq_true,List.all_eq_true] at h
   have h4:=h.2 t ht
   unfold lM at h4
   simp only [Bool.and_eq_true,List.all_eq_true] at h4
   have h5:=h4.1.1
   have hv:t.bF.length<=6:=by split at h5<;>simp only [Bool.and_eq_true,decide_eq_true_eq] at h5<;>omega
   exact ⟨by have:=(iC h4.1.2).2;omega,by omega,fun v hv=>by have:=(iC (h4.2 v hv)).2;omega⟩⟩
 unfold j0 Au Gj at h
 simp only [Bool.and_eq_true,Bool.or_eq_true,decide_eq_true_eq] at h
 obtain ⟨h1,_,_,_,_,_,⟨_,h5⟩,⟨h6,h7⟩,h8,h9,⟨_,_,EZ,HK,Ei⟩,XR⟩:=h
 have ht:=tolsB_ok h9
 exact ⟨by have:=(iC h1).2;omega,by omega,by omega,fun q hq=>by have:=pairsB_ok h6 q hq;exact ⟨by have:=this.1.1;omega,by have:=this.2.1;omega⟩,tl h8,by omega,fun t h=>by have:=ht.2 t h;exact ⟨by have:=this.1.1;omega,by have:=this.2.1;omega⟩,
  by rcases Ei with e|e;exact (by have:=(iC e).2;omega);rw [e.1];exact Nat.zero_le _,tl EZ,tl HK,by rcases XR with e|e;exact (by have:=(iC e.1).2;omega);rw [e.1];exact Nat.zero_le _⟩
section
variable {P:Program} (hG:bN P AF.fns.get)
include hG
theorem T6 (n:cI) (h:HP n=true):Pure P 108 [.agg (aS n)] (·=.b true):=mnode_at hG n (M6 h) (aE rfl (by rw [h]))
theorem RL (p:aO) (h:j0 p=true):Pure P 115 [.agg (aJ p)] (·=.b true):=mpod_at hG p (EG h) (aE rfl (by rw [h]))
theorem entries_at (fD:eD P 285) {h:aA} (s:eG) (hn:s.nodes.length<=1000) (hp:s.aF.length<=1000) (JX:∀ n∈s.nodes,HP n=true) (LQ:∀ p∈s.aF,j0 p=true) (H6:∀ p∈s.aF,p.term<=9223372036854775807) {K:V->aA->Prop}
 (hK:∀ lv h',RE lv (qS s)->aA.aI (fun _=>False) h h'->K lv h'):aB P 12 [lT s] h K:=by
 have hnm:(s.nodes.map aS).length=s.nodes.length:=List.length_map _
 have hpm:(s.aF.map aJ).length=s.aF.length:=List.length_map _
 refine jG (hG _ AF.f12 rfl) rfl ?_
 (refine zr ?_)
 refine fQ.by (fun q fr st=>∃ (i:Nat) (hh lo:aA) (ev:V),i<=s.nodes.length/\q=s.nodes.length - i/\aA.aI (fun _=>False) h hh/\0<lo.next/\lo.get 0=some (.cs [.sl none 6 (s.nodes.map aS),.sl none 16 (s.aF.map aJ)])/\
  ((tJ 0 (s.nodes.take i)=[]/\ev=.aV)\/(0<i/\∃ t,ev=.sl (some (.l t)) 3 ((tJ 0 (s.nodes.take i)).map lN)/\0<t/\t<lo.next/\lo.get t=some .spare))/\
  Fr.le [(9,.i .i64 i),(8,.i .i64 (s.nodes.map aS).length),(3,ev),(1,.p (.l 0) 0)] fr/\st=⟨hh,lo⟩)
  s.nodes.length ⟨0,h,_,.aV,Nat.zero_le _,rfl,.refl _ _,Nat.zero_lt_one,rfl,.inl ⟨rfl,rfl⟩,dK,rfl⟩ ?_
 rintro q fr st ⟨i,hh,lo,ev,hi,rfl,hk,zJ,g0,Bp,dO,rfl⟩
 refine ⟨_,dO,fun R hR=>?_⟩
 by_cases eB:i<s.nodes.length
 · have he:=List.getElem?_eq_getElem eB
   have hb:=JX _ (List.getElem_mem eB)
   generalize s.nodes[i]=e at he hb
   have KG:=Gs (k:=0) he
   have mN:(tJ 0 (s.nodes.take i)).length<=1000:=by rw [vG,List.length_take];omega
   have hm:=CS hb
   have aiP:=M6 hb
   have rX:e.name.length<=12:=by unfold HP at hb;simp only [Bool.and_eq_true] at hb;exact (iC hb.1).2
   have hw:=fun K hK=>wputn_at (K:=K) hG fD e (by omega) (by omega) (T6 hG e hb) (h:=hh) hK
   have a1:∀ o,(lo.push o).get 0=some (.cs [.sl none 6 (s.nodes.map aS),.sl none 16 (s.aF.map aJ)]):=fun o=>aA.gp (by omega) g0
   rw [Nat.zero_add] at KG
   generalize tJ 0 (s.nodes.take i)=L at Bp KG mN
   have hLm:(L.map lN).length=L.length:=List.length_map _
   rcases Bp with ⟨rfl,rfl⟩|⟨Cs,t,rfl,Z8,MT,AM⟩
   · (refine Jk (show (i:Int)<(s.nodes.map aS).length by omega) @hw (decide_eq_true (show ((([110,47]:aU).length+e.name.length:Nat):Int)<=9223372036854775807 by simp;omega)) @he @g0 ?_)
     intro h' LM
     (refine pU @he @g0 @a1 ?_)
     refine hR (s.nodes.length - (i+1)) _ _ (by omega) ⟨i+1,h',_,_,by omega,rfl,hk.trans LM,Nat.succ_pos _,aA.gp (by show 0≠lo.next+1;omega) (aA.gp (by omega) g0),.inr ⟨Nat.succ_pos _,lo.next+1,?_,Nat.succ_pos _,Nat.lt_succ_self _,aA.aC _ _⟩,dK,rfl⟩
     rw [KG];rfl
   · have p1:(lo.push .spare).get t=some .spare:=aA.gp (by omega) AM
     (refine Jk (show (i:Int)<(s.nodes.map aS).length by omega) @hw (decide_eq_true (show ((([110,47]:aU).length+e.name.length:Nat):Int)<=9223372036854775807 by simp;omega)) @he @g0 ?_)
     intro h' LM
     (refine zx4 @he @g0 @a1 @p1 ?_)
     refine hR (s.nodes.length - (i+1)) _ _ (by omega) ⟨i+1,h',_,_,by omega,rfl,hk.trans LM,Nat.succ_pos _,aA.gp (by show 0≠lo.next+1;omega) (aA.gr (by omega) (aA.gp (by omega) g0)),.inr ⟨Nat.succ_pos _,lo.next+1,?_,Nat.succ_pos _,Nat.lt_succ_self _,aA.aC _ _⟩,dK,rfl⟩
     rw [KG,List.map_append];rfl
 obtain rfl:i=s.nodes.length:=by omega
 rw [List.take_length] at Bp
 clear hR
 (refine iU (show ¬((s.nodes.length:Nat):Int)<(s.nodes.map aS).length by omega) @g0 ?_)
 have afZ:(tJ 0 s.nodes).length<=1000:=by rw [vG];exact hn
 unfold qS at hK
 generalize tJ 0 s.nodes=N0 at Bp afZ hK
 have aaJ:(N0=[]/\ev=.aV)\/∃ t,ev=.sl (some (.l t)) 3 (N0.map lN)/\0<t/\t<lo.next/\lo.get t=some .spare:=by
  rcases Bp with h1|⟨_,h1⟩
  · exact .inl h1
  · exact .inr h1
 clear Bp dO
 refine fQ.by (fun q fr st=>∃ (i:Nat) (hh lo:aA) (ev:V),i<=s.aF.length/\q=s.aF.length - i/\aA.aI (fun _=>False) h hh/\0<lo.next/\lo.get 0=some (.cs [.sl none 6 (s.nodes.map aS),.sl none 16 (s.aF.map aJ)])/\
  ((N0++sZ 0 (s.aF.take i)=[]/\ev=.aV)\/∃ t,ev=.sl (some (.l t)) 3 ((N0++sZ 0 (s.aF.take i)).map lN)/\0<t/\t<lo.next/\lo.get t=some .spare)/\
  Fr.le [(35,.i .i64 i),(34,.i .i64 (s.aF.map aJ).length),(3,ev),(1,.p (.l 0) 0)] fr/\st=⟨hh,lo⟩)
  s.aF.length ⟨0,hh,lo,ev,Nat.zero_le _,rfl,hk,zJ,g0,by simpa [sZ] using aaJ,dK,rfl⟩ ?_
 clear aaJ hk zJ g0
 rintro q fr st ⟨i,hh,lo,ev,hi,rfl,hk,zJ,g0,Bp,dO,rfl⟩
 refine ⟨_,dO,fun R hR=>?_⟩
 by_cases eB:i<s.aF.length
 · have he:=List.getElem?_eq_getElem eB
   have hb:=LQ _ (List.getElem_mem eB)
   have H6:=H6 _ (List.getElem_mem eB)
   generalize s.aF[i]=e at he hb H6
   have KG:N0++sZ 0 (s.aF.take (i+1))=N0++sZ 0 (s.aF.take i)++[⟨b7 e.name,20+(i:Nat),bW e⟩]:=by rw [Gt (k:=0) he,Nat.zero_add,List.append_assoc]
   have mN:(N0++sZ 0 (s.aF.take i)).length<=2000:=by rw [List.length_append,AB,List.length_take];omega
   have rX:e.name.length<=12:=by unfold j0 at hb;simp only [Bool.and_eq_true] at hb;exact (iC hb.1).2
   have hw:=fun K hK=>wput_at (K:=K) hG fD e (Ew hb H6).small (RL hG e hb) (h:=hh) hK
   have a1:∀ o,(lo.push o).get 0=some (.cs [.sl none 6 (s.nodes.map aS),.sl none 16 (s.aF.map aJ)]):=fun o=>aA.gp (by omega) g0
   generalize N0++sZ 0 (s.aF.take i)=L at Bp KG mN
   have hLm:(L.map lN).length=L.length:=List.length_map _
   rcases Bp with ⟨rfl,rfl⟩|⟨t,rfl,Z8,MT,AM⟩
   · (refine Jk (show (i:Int)<(s.aF.map aJ).length by omega) @hw (decide_eq_true (show ((([112,47]:aU).length+e.name.length:Nat):Int)<=9223372036854775807 by simp;omega)) @he @g0 ?_)
     intro h' LM
     (refine pU @he @g0 @a1 ?_)
     refine hR (s.aF.length - (i+1)) _ _ (by omega) ⟨i+1,h',_,_,by omega,rfl,hk.trans LM,Nat.succ_pos _,aA.gp (by show 0≠lo.next+1;omega) (aA.gp (by omega) g0),.inr ⟨lo.next+1,?_,Nat.succ_pos _,Nat.lt_succ_self _,aA.aC _ _⟩,dK,rfl⟩
     rw [KG];rfl
   · have p1:(lo.push .spare).get t=some .spare:=aA.gp (by omega) AM
     (refine Jk (show (i:Int)<(s.aF.map aJ).length by omega) @hw (decide_eq_true (show ((([112,47]:aU).length+e.name.length:Nat):Int)<=9223372036854775807 by simp;omega)) @he @g0 ?_)
     intro h' LM
     (refine zx4 @he @g0 @a1 @p1 ?_)
     refine hR (s.aF.length - (i+1)) _ _ (by omega) ⟨i+1,h',_,_,by omega,rfl,hk.trans LM,Nat.succ_pos _,aA.gp (by show 0≠lo.next+1;omega) (aA.gr (by omega) (aA.gp (by omega) g0)),.inr ⟨lo.next+1,?_,Nat.succ_pos _,Nat.lt_succ_self _,aA.aC _ _⟩,dK,rfl⟩
     rw [KG,List.map_append];rfl
 · obtain rfl:i=s.aF.length:=by omega
   rw [List.take_length] at Bp
   rcases Bp with ⟨h1,rfl⟩|⟨t,rfl,_⟩
   · (refine cJ (show ¬((s.aF.length:Nat):Int)<(s.aF.map aJ).length by omega) ?_)
     exact hK _ hh (.inl ⟨rfl,h1⟩) hk
   · (refine cJ (show ¬((s.aF.length:Nat):Int)<(s.aF.map aJ).length by omega) ?_)
     exact hK _ hh (.inr rfl) hk
end
open Go
def findD (L:List dJ) (k:aU):Option dJ:=if k=[] then none else eM L k
theorem M7:∀ {L:List dJ} {k:aU},(∀ e,eM L k=some e->∃ i:Nat,gB (fun x:dJ=>x.key==k) L=i/\L[i]? =some e)/\(eM L k=none->gB (fun x:dJ=>x.key==k) L=-1)
 |[],k=>⟨fun e h=>by simp [eM] at h,fun _=>rfl⟩
 |x::r,k=>by
  obtain ⟨a1,a2⟩:=M7 (L:=r) (k:=k)
  unfold eM
  by_cases hk:k=x.key
  · rw [if_pos hk]
    refine ⟨fun e h=>⟨0,?_,by cases h;rfl⟩,fun h=>by cases h⟩
    exact cX (e:=x) rfl (by simp [hk]) (fun j x h=>by omega)
  · rw [if_neg hk]
    refine ⟨fun e h=>?_,fun h=>?_⟩
    · obtain ⟨i,h1,h2⟩:=a1 e h
      refine ⟨i+1,?_,by simpa using h2⟩
      unfold gB at h1 ⊢
      rw [List.findIdx?_cons,if_neg (by simpa using fun h=>hk h.symm)]
      cases hf:r.findIdx? (fun x=>x.key==k) with
      |none=>rw [hf] at h1;dsimp only at h1;omega
      |some j=>rw [hf] at h1;dsimp only at h1;simp only [Option.map_some];omega
    · have h1:=a2 h
      unfold gB at h1 ⊢
      rw [List.findIdx?_cons,if_neg (by simpa using fun h=>hk h.symm)]
      cases hf:r.findIdx? (fun x=>x.key==k) with
      |none=>rfl
      |some j=>rw [hf] at h1;dsimp only at h1;omega
section
variable {P:Program} (hG:bN P AF.fns.get)
include hG
theorem pfind1_at {e:dJ} {s:aU} {h:aA} {k:Nat} (hk:h.get k=some (.cs [.s s])) {K:V->aA->Prop} (hK:K (.b (e.key==s)) h):aB P 124 [.agg (lN e),.p (.g k) 0] h K:=by
 refine jG (hG _ AF.f124 rfl) rfl ?_
 (refine cJ @hk ?_)
 exact hK
theorem ixEn_at {h:aA} {g k:Nat} {L:List dJ} (hl:L.length<=100000) {p:dJ->Bool}
 (hg:∀ e∈L,∀ K:V->aA->Prop,K (.b (p e)) h->aB P g (.agg (lN e)::[.p (.g k) 0]) h K) {K:V->aA->Prop} (hK:K (.i .i64 (gB p L)) h):aB P 123 [.sl none 3 (L.map lN),.fn g [] [.p (.g k) 0]] h K:=by
 have iO:(L.map lN).length=L.length:=List.length_map _
 refine jG (hG _ AF.f123 rfl) rfl ?_
 (refine zr ?_)
 refine fQ.by (fun q fr st=>∃ (i:Nat) (lc:aA),i<=L.length/\q=L.length - i/\(∀ (j:Nat) (e:dJ),j<i->L[j]? =some e->p e=false)/\
  Fr.le [(8,.i .i64 i),(7,.i .i64 (L.map lN).length),(1,.fn g [] [.p (.g k) 0]),(0,.sl none 3 (L.map lN))] fr/\st=⟨h,lc⟩)
  L.length ⟨0,_,Nat.zero_le _,rfl,(fun j e hj=>absurd hj (Nat.not_lt_zero _)),dK,rfl⟩ ?_
 rintro q fr st ⟨i,lc,hi,rfl,nY,dO,rfl⟩
 refine ⟨_,dO,fun R hR=>?_⟩
 by_cases eB:i<L.length
 · have he:=List.getElem?_eq_getElem eB
   have BA:=List.getElem_mem eB
   generalize L[i]=e at he BA
   have nC:=fun K hK=>hg e BA K hK
   (refine pU (show (i:Int)<(L.map lN).length by omega) @nC @he ?_)
   cases hp:p e
   · (refine zr ?_)
     exact hR (L.length - (i+1)) _ _ (by omega) ⟨i+1,_,by omega,rfl,(fun j x hj hx=>by
      by_cases xF:j<i
      · exact nY j x xF hx
      · obtain rfl:j=i:=by omega
        rw [he] at hx;cases hx;exact hp),dK,rfl⟩
   · (refine zr ?_)
     rw [cX he hp nY] at hK
     exact hK
 · (refine cJ (show ¬(i:Int)<(L.map lN).length by omega) ?_)
   rw [dF (p:=p) (l:=L) fun j x hx=>nY j x (by have:=(List.getElem?_eq_some_iff.1 hx).1;omega) hx] at hK
   exact hK
theorem find_at {h:aA} {L:List dJ} (hl:L.length<=100000) (s:aU) {K:V->aA->Prop}
 (hK:∀ h',aA.aI (fun _=>False) h h'->(findD L s=none->K (.bY [.agg Z9,.b false]) h')/\∀ e,findD L s=some e->K (.bY [.agg (lN e),.b true]) h'):aB P 51 [.sl none 3 (L.map lN),.s s] h K:=by
 have iO:(L.map lN).length=L.length:=List.length_map _
 have X3:(h.push (.cs [.s s])).get h.next=some (.cs [.s s]):=aA.aC _ _
 have lQ:=fun K hK=>ixEn_at (h:=h.push (.cs [.s s])) (K:=K) hG hl (p:=fun x=>x.key==s) (fun e _ K hK=>pfind1_at hG X3 hK) hK
 obtain ⟨b1,b2⟩:=hK (h.push (.cs [.s s])) (.push (.refl _ _) _)
 clear hK
 obtain ⟨a1,a2⟩:=M7 (L:=L) (k:=s)
 unfold findD at b1 b2
 refine jG (hG _ AF.f51 rfl) rfl ?_
 cases fC:eM L s with
 |none=>
  rw [a2 fC] at lQ
  rw [fC,ite_self] at b1
  (refine iU @lQ @X3 ?_)
  exact b1 rfl
 |some e=>
  obtain ⟨i,h1,h2⟩:=a1 e fC
  have h3:=(List.getElem?_eq_some_iff.1 h2).1
  rw [h1] at lQ
  rw [fC] at b1 b2
  by_cases hs:s=[]
  · rw [if_pos hs] at b1
    subst hs
    (refine pU @lQ (show ¬((i:Nat):Int)<0 by omega) @X3 ?_)
    exact b1 rfl
  · rw [if_neg hs] at b2
    have hse:(s==([]:aU))=false:=by simpa using hs
    (refine Jk @lQ (show ¬((i:Nat):Int)<0 by omega) @hse @X3 @h2 ?_)
    exact b2 e rfl
end
open Go
def nB (rev term:Int) (e n:dJ):List O4:=[⟨iS,term,false⟩,⟨e.key,e.rev,false⟩,⟨n.key,n.rev,false⟩,⟨[112,47],rev,true⟩,⟨[110,47],rev,true⟩]
def nO (x:dJ):ED:=⟨x.key,[],true⟩
def vH (x:dJ):List V:=[.s x.key,.aV,.b true]
def rU (e:dJ) (p:aO):ED:=⟨e.key,bW p,false⟩
theorem Na:∀ X:List dJ,Cj (X.map vH) ((X.map nO).map lP)
 |[]=>.nil
 |_::r=>.cons (.cons (.refl _) (.cons (.nil _) (.cons (.refl _) .nil))) (Na r)
theorem J1:∀ l:List V,ME l l
 |[]=>.nil
 |_::r=>.cons (.refl _) (J1 r)
theorem J2 {fr:Fr} {st:St} {k t:Nat} {j:Key} {c cs:List V} {v:V} {b:Bool} (h1:fr.get k=.p j 0) (h2:st.get j=some (.cs c)) (h3:dL c 0 (some 2)=some v) (h5:v.pass=some (.agg cs)) (h4:fr.get t=.b b):eX fr st [.cell k (some 2),.t t]=some (.bY [.agg cs,.b b]):=by
 have e1:tS fr st (.cell k (some 2))=some (.agg cs):=by
  unfold tS
  simp only [h1,h2,h3,h5]
 have e2:tS fr st (.t t)=some (.b b):=by
  show (fr.get t).pass=_
  rw [h4];rfl
 unfold eX
 simp only [nQ,e1,e2]
section
variable {P:Program} (hG:bN P AF.fns.get)
include hG
theorem OI (fD:eD P 285) {h:aA} {L:List dJ} (hl:L.length<=100000) (rev:Int) (uT node:aU) (hp:uT.length<=12) (LQ:bK uT=false) (hn:node.length<=12) (aa1:bK node=true->∃ n,findD L (eF node)=some n) (vs:List aU) (term:Int) {K:V->aA->Prop}
 (hK:∀ h',aA.aI (fun _=>False) h h'->K (.bY [.agg [.aV,.aV],.b false]) h'):aB P 14 [.sl none 3 (L.map lN),.i .i64 rev,.agg [.s uT,.s node,.sl none 1 (vs.map bG)],.i .i64 term] h K:=by
 have Cf:=fun K hK=>TZ (K:=K) hG (h:=h) uT (by omega) LQ hK
 have hf1:=fun K hK=>find_at (K:=K) hG (h:=h) hl [] hK
 refine jG (hG _ AF.f14 rfl) rfl ?_
 (refine iU @Cf @hf1 ?_)
 intro h1 k1
 refine ⟨fun _=>?_,fun e he=>by simp [findD] at he⟩
 have fin:∀ h2,aA.aI (fun _=>False) h1 h2->∀ K:V->aA->Prop,(∀ h',aA.aI (fun _=>False) h2 h'->K (.bY [.agg JL,.b false]) h')->aB P 53 [.aV] h2 K:=fun h2 _ K hK=>RZ hG fD hK
 cases JX:bK node with
 |false=>
  have qO:=fun K hK=>T0 (K:=K) hG (h:=h1) node (by omega) JX hK
  have Ub:=fun K hK=>find_at (K:=K) hG (h:=h1) hl [] hK
  (refine iU @qO @Ub ?_)
  intro h2 k2
  refine ⟨fun _=>?_,fun e he=>by simp [findD] at he⟩
  (refine cJ (fin h2 k2) ?_)
  intro h3 k3
  (refine zr ?_)
  exact hK h3 ((k1.trans k2).trans k3)
 |true=>
  obtain ⟨n,MK⟩:=aa1 JX
  have qO:=fun K hK=>keyn_at (K:=K) hG (h:=h1) node (by omega) JX hK
  have Ub:=fun K hK=>find_at (K:=K) hG (h:=h1) hl (eF node) hK
  (refine iU @qO @Ub ?_)
  intro h2 k2
  refine ⟨(fun e=>by rw [MK] at e;cases e),fun e he=>?_⟩
  (refine cJ (fin h2 k2) ?_)
  intro h3 k3
  (refine zr ?_)
  exact hK h3 ((k1.trans k2).trans k3)
theorem ptxn0_at (fD:eD P 285) {h:aA} {L:List dJ} (hl:L.length<=100000) (rev:Int) (uT node:aU) (LQ:bK uT=true) (JX:bK node=true) {e n:dJ} (he:findD L (b7 uT)=some e) (hn:findD L (eF node)=some n)
 (p:aO) (Ct:qR p) (hpd:j0 p=true) (hpt:p.term<=9223372036854775807) (Bp:e.val=bW p) (U1:p.node=[]) (vs:List aU) (term:Int) (ht:1<=term/\term<=9223372036854775807) (Md:node≠[]) (q:aO) (hq:q={ p with node:=node,term:=term }) (hqb:j0 q=true) (hql:qR q)
 (X:List dJ) (hX:X.length=vs.length) (H3:vs.length<=1000) (hv:∀ (i:Nat) (v:aU) (x:dJ),vs[i]? =some v->X[i]? =some x->bK v=true/\findD L (b7 v)=some x) {K:V->aA->Prop}
 (hK:∀ h',aA.aI (fun _=>False) h h'->K (.bY [.agg [.sl none 3 ((nB rev term e n).map wX),.sl none 3 (lP (rU e q)::X.map vH)],.b true]) h'):aB P 14 [.sl none 3 (L.map lN),.i .i64 rev,.agg [.s uT,.s node,.sl none 1 (vs.map bG)],.i .i64 term] h K:=by
 have Cf:=fun K hK=>keyp_at (K:=K) hG (h:=h) uT (by have:=(nameB_ok LQ).1;omega) LQ hK
 have hf1:=fun K hK=>find_at (K:=K) hG (h:=h) hl (b7 uT) hK
 have hvm:(vs.map bG).length=vs.length:=List.length_map _
 have Sk:(!(p.node==([]:aU)))=false:=by rw [U1];rfl
 have agM:(node==([]:aU))=false:=by simpa using Md
 refine jG (hG _ AF.f14 rfl) rfl ?_
 (refine iU @Cf @hf1 ?_)
 intro h1 k1
 refine ⟨(fun e=>by rw [he] at e;cases e),fun e' FB=>?_⟩
 obtain rfl:e'=e:=by rw [he] at FB;cases FB;rfl
 have qO:=fun K hK=>keyn_at (K:=K) hG (h:=h1) node (by have:=(nameB_ok JX).1;omega) JX hK
 have Ub:=fun K hK=>find_at (K:=K) hG (h:=h1) hl (eF node) hK
 (refine iU @qO @Ub ?_)
 intro h2 k2
 refine ⟨(fun e=>by rw [hn] at e;cases e),fun n' NL=>?_⟩
 obtain rfl:n'=n:=by rw [hn] at NL;cases NL;rfl
 have hgp:=fun K hK=>TY (K:=K) hG fD p Ct hpd hpt (h:=h2) hK
 rw [<-Bp] at hgp
 (refine cJ @hgp ?_)
 intro h3 k3
 have VM:=fun K hK=>TX (K:=K) hG fD q hql hqb (by rw [hq];exact ht.2) (h:=h3) hK
 rw [hq] at VM
 (refine O0 (show ¬term<1 by omega) @Sk @agM @VM ?_)
 intro h4 k4
 rw [<-hq]
 have XX:=fun K hK=>keyl_at (K:=K) hG (h:=h4) hK
 (refine cJ @XX ?_)
 obtain ⟨W0,hW0⟩:∃ W0,W0=lP (rU e' q):=⟨_,rfl⟩
 obtain ⟨G0,hG0⟩:∃ G0,G0=(nB rev term e' n').map wX:=⟨_,rfl⟩
 refine fQ.by (fun w fr st=>∃ (i:Nat) (hh lo:aA) (t:Nat),i<=vs.length/\w=vs.length - i/\aA.aI (fun _=>False) h hh/\6<lo.next/\t<lo.next/\t≠6/\t≠1/\lo.get 1=some (.cs [.aV,.aV])/\
  lo.get 6=some (.cs [.sl (some (.l 7)) 3 G0,.sl (some (.l t)) 3 (W0::(X.take i).map vH)])/\lo.get t=some .spare/\
  Fr.le [(102,.i .i64 i),(101,.i .i64 (vs.map bG).length),(100,.sl none 1 (vs.map bG)),(16,.p (.l 6) 0),(8,.p (.l 1) 0),(0,.sl none 3 (L.map lN))] fr/\st=⟨hh,lo⟩)
  vs.length ⟨0,h4,_,5,Nat.zero_le _,rfl,((k1.trans k2).trans k3).trans k4,(by show 6<8;decide),(by show 5<8;decide),by decide,by decide,rfl,(by rw [hW0,hG0];rfl),rfl,dK,rfl⟩ ?_
 rintro w fr st ⟨i,hh,lo,t,hi,rfl,hk,l6,lt,t6,t1,g1,g6,gt,dO,rfl⟩
 refine ⟨_,dO,fun R hR=>?_⟩
 by_cases eB:i<vs.length
 · have hvi:=List.getElem?_eq_getElem eB
   have hxi:=List.getElem?_eq_getElem (show i<X.length by omega)
   obtain ⟨XY,hvf⟩:=hv i _ _ hvi hxi
   generalize vs[i]=v at hvi XY hvf
   generalize X[i]'(by omega)=x at hxi hvf
   have Yu:=fun K hK=>keyp_at (K:=K) hG (h:=hh) v (by have:=(nameB_ok XY).1;omega) XY hK
   have hfv:=fun K hK=>find_at (K:=K) hG (h:=hh) hl (b7 v) hK
   have KG:(X.take (i+1)).map vH=(X.take i).map vH++[vH x]:=by rw [List.take_add_one,hxi,List.map_append];rfl
   have hXl:((X.take i).map vH).length<=1000:=by rw [List.length_map,List.length_take];omega
   generalize (X.take i).map vH=Y at g6 KG hXl
   (refine O0 (show (i:Int)<(vs.map bG).length by omega) @Yu @hfv @hvi ?_)
   intro h5 k5
   refine ⟨(fun e=>by rw [hvf] at e;cases e),fun x' Se=>?_⟩
   obtain rfl:x'=x:=by rw [hvf] at Se;cases Se;rfl
   have a6:∀ o o',((lo.push o).set lo.next o').get 6=some (.cs [.sl (some (.l 7)) 3 G0,.sl (some (.l t)) 3 (W0::Y)]):=fun o o'=>aA.gs (by omega) (aA.gp (by omega) g6)
   have a1:∀ o o',((lo.push o).set lo.next o').get 1=some (.cs [.aV,.aV]):=fun o o'=>aA.gs (by omega) (aA.gp (by omega) g1)
   have a6':∀ o o',(((lo.push o).set lo.next o').push .spare).get 6=some (.cs [.sl (some (.l 7)) 3 G0,.sl (some (.l t)) 3 (W0::Y)]):=fun o o'=>aA.gp (by show 6≠lo.next+1;omega) (a6 o o')
   have at_:∀ o o',(((lo.push o).set lo.next o').push .spare).get t=some .spare:=fun o o'=>aA.gp (by show t≠lo.next+1;omega) (aA.gs (by omega) (aA.gp (by omega) gt))
   have aa3:∀ o o',(((((lo.push o).set lo.next o').push .spare).remove t).push .spare).get 6=some (.cs [.sl (some (.l 7)) 3 G0,.sl (some (.l t)) 3 (W0::Y)]):=fun o o'=>aA.gp (by show 6≠lo.next+1+1;omega) (aA.gr (by omega) (a6' o o'))
   (refine zx5 @a6 @a6' @aa3 @at_ @aA.aC ?_)
   refine hR (vs.length - (i+1)) _ _ (by omega) ⟨i+1,h5,_,lo.next+2,by omega,rfl,hk.trans k5,(by show 6<lo.next+3;omega),(by show lo.next+2<lo.next+3;omega),by omega,by omega,?_,?_,aA.gs (by omega) (aA.aC _ _),dK,rfl⟩
   · exact aA.gs (by omega) (aA.gp (by show 1≠lo.next+1+1;omega) (aA.gr (by omega) (aA.gp (by show 1≠lo.next+1;omega) (a1 _ _))))
   · refine (aA.aD (aa3 _ _)).trans ?_
     rw [KG];rfl
 · obtain rfl:i=vs.length:=by omega
   rw [show X.take vs.length=X by rw [<-hX,List.take_length]] at g6
   clear hR
   (refine pU (show ¬((vs.length:Nat):Int)<(vs.map bG).length by omega) @g6 @g1 ?_)
   rw [hW0,hG0] at*
   refine Eu (rs:=AF.f14.results) (v:=.bY [.agg [.sl none 3 ((nB rev term e' n').map wX),.sl none 3 (lP (rU e' q)::X.map vH)],.b true]) ?_ (hK _ hk)
   exact J2 rfl (aA.aD g1) rfl rfl rfl
theorem ptxn_at (fD:eD P 285) {h:aA} {L:List dJ} (hl:L.length<=100000) (rev:Int) (uT node:aU) (LQ:bK uT=true) (JX:bK node=true) {e n:dJ} (he:findD L (b7 uT)=some e) (hn:findD L (eF node)=some n)
 (p:aO) (Ct:qR p) (hpd:j0 p=true) (hpt:p.term<=9223372036854775807) (Bp:e.val=bW p) (U1:p.node=[]) (vs:List aU) (term:Int) (ht:1<=term/\term<=9223372036854775807) (Md:node≠[]) (q:aO) (hq:q={ p with node:=node,term:=term }) (hqb:j0 q=true) (hql:qR q)
 (X:List dJ) (hX:X.length=vs.length) (H3:vs.length<=1000) (hv:∀ (i:Nat) (v:aU) (x:dJ),vs[i]? =some v->X[i]? =some x->bK v=true/\findD L (b7 v)=some x) {K:V->aA->Prop}
 (hK:∀ h',aA.aI (fun _=>False) h h'->K (.bY [.agg [.sl none 3 ((nB rev term e n).map wX),.sl none 3 ((rU e q::X.map nO).map lP)],.b true]) h'):aB P 14 [.sl none 3 (L.map lN),.i .i64 rev,.agg [.s uT,.s node,.sl none 1 (vs.map bG)],.i .i64 term] h K:=by
 refine aB.tell (ptxn0_at hG fD hl rev uT node LQ JX he hn p Ct hpd hpt Bp U1 vs term ht Md q hq hqb hql X hX H3 hv (K:=fun v h'=>v=.bY [.agg [.sl none 3 ((nB rev term e n).map wX),.sl none 3 (lP (rU e q)::X.map vH)],.b true]/\aA.aI (fun _=>False) h h') fun h' hk=>⟨rfl,hk⟩) ?_
 rintro v h' ⟨rfl,hk⟩
 have hc:yZ gV ⟨0,0⟩ gA [.sl none 3 ((nB rev term e n).map wX),.sl none 3 (lP (rU e q)::X.map vH)] [.sl none 3 ((nB rev term e n).map wX),.sl none 3 ((rU e q::X.map nO).map lP)]:=⟨T7 _ _,.rows (.cons (J1 _) (Na X)),trivial⟩
 exact ⟨_,fun E x hx=>JM hc E x hx,hK h' hk⟩
end
open Go
theorem FA {lo:aA} {o o':Obj} (j:Nat) (hj:j<lo.next):((lo.push o).set lo.next o').get j=lo.get j:=by
 rw [aA.pI (by omega),aA.uQ (by omega)]
open Go
def qU (f:aU->Int) (lv:List Int) (s:eG):List dJ:=⟨iS,f iS,lv⟩::(s.nodes.map (fun n=>⟨eF n.name,f (eF n.name),dQ n⟩)++s.aF.map fun p=>⟨b7 p.name,f (b7 p.name),bW p⟩)
theorem wL {c:UInt8} {a b:aU} (h:cC a b):cC (c::a) (c::b):=by
 unfold cC at*
 unfold Op.bytesLess
 rw [h];simp
theorem Xh (s:aU):cC iS (eF s):=rfl
theorem Xi (s:aU):cC iS (b7 s):=rfl
theorem Xj (s t:aU):cC (eF s) (b7 t):=rfl
theorem EN {f:aU->Int} {lv:List Int} {s:eG} (hn:s.nodes.Pairwise fun a b=>cC a.name b.name) (hp:xV s.aF):sX (qU f lv s):=by
 unfold qU sX
 refine List.pairwise_cons.2 ⟨fun e he=>?_,List.pairwise_append.2 ⟨?_,?_,fun a ha b hb=>?_⟩⟩
 · rcases List.mem_append.1 he with he|he
   · obtain ⟨n,_,rfl⟩:=List.mem_map.1 he;exact Xh _
   · obtain ⟨n,_,rfl⟩:=List.mem_map.1 he;exact Xi _
 · exact List.Pairwise.map _ (fun a b h=>wL (wL h)) hn
 · exact List.Pairwise.map _ (fun a b h=>wL (wL h)) hp
 · obtain ⟨n,_,rfl⟩:=List.mem_map.1 ha
   obtain ⟨q,_,rfl⟩:=List.mem_map.1 hb
   exact Xj _ _
theorem HV {f:aU->Int} {lv:List Int} {s:eG} {e:dJ}:e∈qU f lv s↔e=⟨iS,f iS,lv⟩\/(∃ n∈s.nodes,e=⟨eF n.name,f (eF n.name),dQ n⟩)\/∃ p∈s.aF,e=⟨b7 p.name,f (b7 p.name),bW p⟩:=by
 unfold qU
 rw [List.mem_cons,List.mem_append,List.mem_map,List.mem_map]
 exact ⟨fun h=>h.imp id fun h=>h.imp (fun ⟨n,a,b⟩=>⟨n,a,b.symm⟩) fun ⟨n,a,b⟩=>⟨n,a,b.symm⟩,fun h=>h.imp id fun h=>h.imp (fun ⟨n,a,b⟩=>⟨n,a,b.symm⟩) fun ⟨n,a,b⟩=>⟨n,a,b.symm⟩⟩
theorem R4 {L:List dJ} (h:sX L) {k:aU} {e:dJ}:eM L k=some e↔e∈L/\e.key=k:=by
 refine ⟨fun he=>⟨?_,JO he⟩,fun ⟨h1,h2⟩=>by rw [<-h2];exact h.get e h1⟩
 clear h
 induction L with
 |nil=>cases he
 |cons x r ih=>
  unfold eM at he
  split at he
  · cases he;exact .head _
  · exact .tail _ (ih he)
def O5:Int->List dJ->List dJ
 |_,[]=>[]
 |k,e::r=>⟨e.key,k,e.val⟩::O5 (k+1) r
theorem J4:∀ {E:List dJ} {k:Int} {i:Nat} {e:dJ},E[i]? =some e->O5 k (E.take (i+1))=O5 k (E.take i)++[⟨e.key,k+i,e.val⟩]
 |x::r,k,0,e,h=>by
  simp at h;subst h
  simp [O5]
 |x::r,k,i+1,e,h=>by
  rw [List.take_succ_cons,List.take_succ_cons,O5,O5,J4 (E:=r) (k:=k+1) (i:=i) (by simpa using h),List.cons_append]
  rw [show k+1+(i:Int)=k+((i+1:Nat):Int) by push_cast;omega]
theorem HW:∀ {E:List dJ} {k:Int} {e:dJ},e∈O5 k E->(∃ x∈E,e.key=x.key/\e.val=x.val)/\k<=e.rev/\e.rev<k+E.length
 |x::r,k,e,h=>by
  rw [O5] at h
  cases h with
  |head=>exact ⟨⟨x,.head _,rfl,rfl⟩,Int.le_refl _,by simp only [List.length_cons];push_cast;omega⟩
  |tail _ h=>
   obtain ⟨⟨y,a,b⟩,c,d⟩:=HW h
   exact ⟨⟨y,.tail _ a,b⟩,by omega,by simp only [List.length_cons];push_cast;omega⟩
def J5 (lv:List Int) (E:List dJ):List dJ:=⟨iS,1,lv⟩::O5 2 E
theorem OK {L:List dJ} {e:dJ} (h:sX L) (hl:∀ x∈L,cC x.key e.key):Ez e false L=L++[e]:=by
 rw [vF e h,List.filter_eq_self.2 (fun x hx=>hl x hx),List.filter_eq_nil_iff.2 fun x hx=>?_]
 intro h2
 have:=sN (hl x hx)
 rw [h2] at this;cases this
def Xk (E:List dJ):Prop:=(E.Pairwise fun a b=>cC a.key b.key)/\∀ e∈E,cC iS e.key
theorem Ue {D:List dJ} {lv:List Int} {E:List dJ} {i:Nat} {e:dJ} (h:jW D (J5 lv (E.take i))) (hE:Xk E) (he:E[i]? =some e):jW (jJ D ⟨e.key,2+i,e.val⟩) (J5 lv (E.take (i+1))):=by
 have h1:=h.put ⟨e.key,2+i,e.val⟩
 rw [OK h.rO fun x hx=>?_] at h1
 · unfold J5 at h1 ⊢
   rw [J4 he]
   exact h1
 · unfold J5 at hx
   cases hx with
   |head=>exact hE.2 e (List.mem_of_getElem? he)
   |tail _ hx=>
    obtain ⟨⟨y,a,b,_⟩,_⟩:=HW hx
    rw [b]
    obtain ⟨j,hj,rfl⟩:=List.mem_iff_getElem.1 a
    rw [List.length_take] at hj
    refine Ag (R:=fun a b:dJ=>cC a.key b.key) (y:=e) hE.1 (i:=j) (j:=i) (by omega) ?_ he
    rw [List.getElem_take,List.getElem?_eq_getElem]
theorem EO:∀ (E:List dJ) (k:Int),(O5 k E).map (fun e=>(e.key,e.val))=E.map fun e=>(e.key,e.val)
 |[],_=>rfl
 |_::r,k=>by rw [O5,List.map_cons,List.map_cons,EO r]
theorem CU:∀ (l:List cI) (k:Nat),(tJ k l).map (fun e=>(e.key,e.val))=l.map fun n=>(eF n.name,dQ n)
 |[],_=>rfl
 |_::r,k=>by rw [tJ,List.map_cons,List.map_cons,CU r]
theorem CV:∀ (l:List aO) (k:Nat),(sZ k l).map (fun e=>(e.key,e.val))=l.map fun n=>(b7 n.name,bW n)
 |[],_=>rfl
 |_::r,k=>by rw [sZ,List.map_cons,List.map_cons,CV r]
theorem Xl {lv:List Int} {s:eG} (h:sX (J5 lv (qS s))):∃ f:aU->Int,J5 lv (qS s)=qU f lv s/\f iS=1/\∀ k,1<=f k/\f k<=1+(qS s).length:=by
 obtain ⟨f,hf⟩:∃ f:aU->Int,f=fun k=>((eM (J5 lv (qS s)) k).map fun e=>e.rev).getD 1:=⟨_,rfl⟩
 have pR:∀ e∈J5 lv (qS s),f e.key=e.rev:=fun e he=>by rw [hf];dsimp only;rw [h.get e he];rfl
 refine ⟨f,?_,pR _ (.head _),fun k=>?_⟩
 · have h1:(J5 lv (qS s)).map (fun e=>(⟨e.key,f e.key,e.val⟩:dJ))=J5 lv (qS s):=by
    conv=>rhs;rw [<-List.map_id (J5 lv (qS s))]
    exact List.map_congr_left fun e he=>by rw [pR e he];rfl
   rw [<-h1]
   have h2:∀ L:List dJ,L.map (fun e=>(⟨e.key,f e.key,e.val⟩:dJ))=(L.map fun e=>(e.key,e.val)).map fun x=>⟨x.1,f x.1,x.2⟩:=fun L=>by rw [List.map_map];rfl
   rw [h2]
   unfold J5 qS qU
   rw [List.map_cons,EO,List.map_append,CU,CV,List.map_cons,List.map_append,List.map_map,List.map_map]
   rfl
 · rw [hf]
   dsimp only
   cases hg:eM (J5 lv (qS s)) k with
   |none=>exact ⟨Int.le_refl _,by show (1:Int)<=_;omega⟩
   |some e=>
    have hm:=((R4 h).1 hg).1
    unfold J5 at hm
    cases hm with
    |head=>exact ⟨Int.le_refl _,by show (1:Int)<=_;omega⟩
    |tail _ hm=>
     have:=(HW hm).2
     show 1<=e.rev/\e.rev<=_
     omega
theorem Xm {s:eG} (hn:s.nodes.Pairwise fun a b=>cC a.name b.name) (hp:xV s.aF):Xk (qS s):=by
 have h1:=EN (f:=fun _=>0) (lv:=[]) hn hp
 unfold sX at h1
 have h2:((qU (fun _=>0) [] s).map (·.key)).Pairwise cC:=List.Pairwise.map _ (fun a b h=>h) h1
 have h3:(qU (fun _=>0) [] s).map (·.key)=iS::(qS s).map (·.key):=by
  have e1:∀ L:List dJ,L.map (·.key)=(L.map fun e=>(e.key,e.val)).map Prod.fst:=fun L=>by rw [List.map_map];rfl
  rw [e1 (qS s)]
  unfold qS qU
  rw [List.map_append,CU,CV,List.map_append,List.map_map,List.map_map,List.map_cons,List.map_append,List.map_map,List.map_map]
  rfl
 rw [h3,List.pairwise_cons] at h2
 exact ⟨List.pairwise_map.1 h2.2,fun e he=>h2.1 _ (List.mem_map.2 ⟨e,he,rfl⟩)⟩
open Go
theorem AI:∀ l:List aU,(l.flatMap bQ).length=8*l.length
 |[]=>rfl
 |x::r=>by rw [List.flatMap_cons,List.length_append,bM,AI r,List.length_cons];omega
theorem R5 {t:cM} (h:lM t=true):(dN t).length<=58:=by
 unfold lM at h
 simp only [Bool.and_eq_true] at h
 have h1:=h.1.1
 have hv:t.bF.length<=6:=by split at h1<;>simp only [Bool.and_eq_true,decide_eq_true_eq] at h1<;>omega
 unfold dN wF
 simp only [List.length_append,aR,bM,AI]
 omega
theorem Bt {l:List cM} (h:fI l=true):(eQ l).length<=349:=by
 unfold fI at h
 simp only [Bool.and_eq_true,decide_eq_true_eq,List.all_eq_true] at h
 have:=eS dN 58 l fun t ht=>R5 (h.2 t ht)
 unfold eQ
 rw [List.length_append,aR]
 omega
theorem Bu {l:List dE} (h:l.length<=6):(eP l).length<=97:=by
 have:=eS cO 16 l fun p _=>Nat.le_of_eq (show (cO p).length=16 by simp [cO,bM])
 unfold eP
 rw [List.length_append,aR]
 omega
theorem J6 {n:cI} (h:HP n=true):(dQ n).length<=4000:=by
 have hm:=CS h
 have h1:=Bu hm.1
 have h2:=Bu hm.2.1
 unfold dQ
 simp only [List.length_append,aR,bM,pP]
 omega
theorem EP {p:aO} (h:j0 p=true):(bW p).length<=4000:=by
 have hm:=AA h
 have h1:=Bu hm.labels
 unfold j0 Au at h
 simp only [Bool.and_eq_true] at h
 obtain ⟨_,_,_,_,_,_,_,_,h8,h9,⟨_,_,EZ,HK,_⟩,_⟩:=h
 have t1:=Bt h8
 have t2:=Bt EZ
 have t3:=Bt HK
 have t4:=eS iH 17 p.b8 fun t _=>Nat.le_of_eq (pO t)
 have t5:=eS jR 2 p.aX fun _ _=>Nat.le_of_eq (aR _ _)
 have h6:=hm.b8
 have h7:=hm.aX
 unfold bW Aq CM
 simp only [List.length_append,aR,bM,pP]
 omega
open Go
theorem Gy {s:eG} {p:aO} {node:aU}:∀ {lo:List aO} {gone:List aU},(gO s p node lo gone).Sublist gone
 |[],_=>.refl _
 |q::r,gone=>by
  rw [gO]
  refine List.Sublist.trans Gy ?_
  split
  · exact List.filter_sublist
  · exact .refl _
theorem LX {s:eG} {p:aO} {node:aU} {l:List aU} (hn:s.aF.Pairwise fun a b=>a.name≠b.name) (h:lI s p node=some l):l.Nodup:=by
 unfold lI at h
 split at h
 · cases h
   refine ((List.mergeSort_perm _ _).nodup_iff).2 (List.Nodup.sublist Gy ?_)
   refine List.pairwise_map.2 ?_
   unfold lH
   exact ((BM _).pairwise_iff (fun {a b} h=>Ne.symm h)).2 ((hn.sublist List.filter_sublist).sublist List.filter_sublist)
 · cases h
theorem HX:∀ {ws:List ED} {S:List aU},(∀ w∈ws,yU w.key=true/\(w.gone=true->w.val=[])/\w.val.length<=4000)->(ws.map (·.key)).Nodup->(∀ w∈ws,w.key∉S)->Fx S ws=true
 |[],_,_,_,_=>rfl
 |w::r,S,h1,h2,h3=>by
  rw [List.map_cons,List.nodup_cons] at h2
  obtain ⟨a,b,c⟩:=h1 w (.head _)
  rw [Fx,HX (fun w hw=>h1 w (.tail _ hw)) h2.2 fun x hx hm=>?_]
  · unfold T4
    rw [a,decide_eq_false (h3 w (.head _)),decide_eq_true c]
    cases hg:w.gone
    · rfl
    · rw [b hg];rfl
  · rcases List.mem_append.1 hm with hm|hm
    · exact h3 x (.tail _ hx) hm
    · rw [List.mem_singleton] at hm
      exact h2.1 (hm▸List.mem_map.2 ⟨x,hx,rfl⟩)
theorem J7 {a b:aU} (h:b7 a=b7 b):a=b:=by
 unfold b7 at h
 simpa using h
structure Cp (f:aU->Int) (lv:List Int) (s:eG) (R:Int) (p:aO) (n:cI) (vs:List aU) (X:List dJ):Prop where
 nso:s.nodes.Pairwise fun a b=>cC a.name b.name
 rO:xV s.aF
 nb:∀ n∈s.nodes,HP n=true
 pb:∀ p∈s.aF,j0 p=true
 pin:p∈s.aF
 nin:n∈s.nodes
 vin:∀ v∈vs,∃ q∈s.aF,q.name=v/\q.name≠p.name
 vnd:vs.Nodup
 agQ:vs.length<=19
 x:X=vs.map fun v=>((eM (qU f lv s) (b7 v)).getD ⟨[],0,[]⟩)
 f1:f iS=1
 fr:∀ k,1<=f k/\f k<=R
theorem J8 {s:aU} (h:bK s=true):1<=s.length/\s.length<=12:=iC h
theorem rV {p:aO} (h:j0 p=true):bK p.name=true:=by unfold j0 at h;simp only [Bool.and_eq_true] at h;exact h.1
theorem AJ {n:cI} (h:HP n=true):bK n.name=true:=by unfold HP at h;simp only [Bool.and_eq_true] at h;exact h.1
section
variable {f:aU->Int} {lv:List Int} {s:eG} {R:Int} {p:aO} {n:cI} {vs:List aU} {X:List dJ} (hP:Cp f lv s R p n vs X)
include hP
theorem Cp.Xn {q:aO} (hq:q∈s.aF):eM (qU f lv s) (b7 q.name)=some ⟨b7 q.name,f (b7 q.name),bW q⟩:=
 (EN hP.nso hP.rO).get _ (HV.2 (.inr (.inr ⟨q,hq,rfl⟩)))
theorem Cp.agR {q:cI} (hq:q∈s.nodes):eM (qU f lv s) (eF q.name)=some ⟨eF q.name,f (eF q.name),dQ q⟩:=
 (EN hP.nso hP.rO).get _ (HV.2 (.inr (.inl ⟨q,hq,rfl⟩)))
theorem Cp.aa4 {v:aU} (hv:v∈vs):∃ q∈s.aF,q.name=v/\q.name≠p.name/\(eM (qU f lv s) (b7 v)).getD ⟨[],0,[]⟩=⟨b7 v,f (b7 v),bW q⟩:=by
 obtain ⟨q,h1,h2,h3⟩:=hP.vin v hv
 exact ⟨q,h1,h2,h3,by rw [<-h2,hP.Xn h1];rfl⟩
theorem Cp.keys:X.map (·.key)=vs.map b7:=by
 rw [hP.x,List.map_map]
 refine List.map_congr_left fun v hv=>?_
 obtain ⟨q,_,_,_,h⟩:=hP.aa4 hv
 show ((eM (qU f lv s) (b7 v)).getD ⟨[],0,[]⟩).key=_
 rw [h]
theorem Cp.may {q:aO} (hq:j0 q=true):Bq (nB R 1 ⟨b7 p.name,f (b7 p.name),bW p⟩ ⟨eF n.name,f (eF n.name),dQ n⟩) (rU ⟨b7 p.name,f (b7 p.name),bW p⟩ q::X.map nO)=true:=by
 have U1:=J8 (rV (hP.pb p hP.pin))
 have Md:=J8 (AJ (hP.nb n hP.nin))
 have KE:X.length=vs.length:=by rw [hP.x,List.length_map]
 have H3:=hP.agQ
 have kP:yU (b7 p.name)=true:=by unfold yU b7;simp;omega
 have kN:yU (eF n.name)=true:=by unfold yU eF;simp;omega
 have r1:=hP.fr (b7 p.name)
 have r2:=hP.fr (eF n.name)
 have r3:=hP.fr iS
 unfold Bq
 rw [HX (fun w hw=>?_) ?_ fun w _ h=>by cases h]
 · have:(nB R 1 ⟨b7 p.name,f (b7 p.name),bW p⟩ ⟨eF n.name,f (eF n.name),dQ n⟩).all Oz=true:=by
    unfold nB Oz
    simp only [List.all_cons,List.all_nil,kP,kN,Bool.true_and,Bool.and_true,Bool.and_eq_true,decide_eq_true_eq]
    exact ⟨⟨rfl,by omega⟩,by omega,by omega,⟨rfl,by omega⟩,rfl,by omega⟩
   rw [this]
   simp [nB]
   omega
 · have h1:(rU ⟨b7 p.name,f (b7 p.name),bW p⟩ q::X.map nO).map (·.key)=b7 p.name::vs.map b7:=by
    rw [List.map_cons,List.map_map,<-hP.keys];rfl
   rw [h1,List.nodup_cons]
   refine ⟨fun hm=>?_,List.Pairwise.map _ (fun a b h e=>h (J7 e)) hP.vnd⟩
   obtain ⟨v,hv,h2⟩:=List.mem_map.1 hm
   obtain ⟨q',_,h4,h5⟩:=hP.vin v hv
   exact h5 (h4.trans (J7 h2))
 · cases hw with
   |head=>exact ⟨kP,(fun h=>by cases h),EP hq⟩
   |tail _ hw=>
    obtain ⟨x,hx,rfl⟩:=List.mem_map.1 hw
    have h1:x.key∈X.map (·.key):=List.mem_map.2 ⟨x,hx,rfl⟩
    rw [hP.keys] at h1
    obtain ⟨v,hv,h2⟩:=List.mem_map.1 h1
    obtain ⟨q',h3,h4,_⟩:=hP.vin v hv
    have:=J8 (rV (hP.pb q' h3))
    refine ⟨?_,fun _=>rfl,Nat.zero_le _⟩
    show yU x.key=true
    rw [<-h2,<-h4]
    unfold yU b7;simp;omega
end
open Go
section
variable {f:aU->Int} {lv:List Int} {s:eG} {R:Int} {p:aO} {n:cI} {vs:List aU} {X:List dJ} (hP:Cp f lv s R p n vs X)
include hP
theorem Cp.Nb {D:List dJ} {T:List (aU×Int)} {q:aO} (hq:j0 q=true) (k0:aU) (v0:List Int) (Lh:k0=iS\/s6 k0 [112,47]=true\/s6 k0 [110,47]=true):
 tK ((BT (R+1) [⟨k0,v0,false⟩]).foldl nM D) (iQ T (R+1) [⟨k0,v0,false⟩]) (nB R 1 ⟨b7 p.name,f (b7 p.name),bW p⟩ ⟨eF n.name,f (eF n.name),dQ n⟩) (rU ⟨b7 p.name,f (b7 p.name),bW p⟩ q::X.map nO)=6:=by
 have h1:=hP.fr iS
 unfold tK
 rw [hP.may hq]
 have:(nB R 1 ⟨b7 p.name,f (b7 p.name),bW p⟩ ⟨eF n.name,f (eF n.name),dQ n⟩).all (kK ((BT (R+1) [⟨k0,v0,false⟩]).foldl nM D) (iQ T (R+1) [⟨k0,v0,false⟩]))=false:=by
  rw [List.all_eq_false]
  have hT:(k0,R+1)∈iQ T (R+1) [⟨k0,v0,false⟩]:=Gx (w:=⟨k0,v0,false⟩) (.head _)
  rcases Lh with rfl|h|h
  · refine ⟨⟨iS,1,false⟩,by simp [nB],?_⟩
    unfold kK
    dsimp only
    rw [show (BT (R+1) [⟨iS,v0,false⟩]).foldl nM D=jJ D ⟨iS,R+1,v0⟩ from rfl,Aw,if_pos rfl]
    simp
    omega
  · refine ⟨⟨[112,47],R,true⟩,by simp [nB],?_⟩
    unfold kK
    dsimp only
    rw [Bool.not_eq_true,List.all_eq_false]
    exact ⟨_,hT,by simp only [h,decide_eq_true (show R<R+1 by omega)];decide⟩
  · refine ⟨⟨[110,47],R,true⟩,by simp [nB],?_⟩
    unfold kK
    dsimp only
    rw [Bool.not_eq_true,List.all_eq_false]
    exact ⟨_,hT,by simp only [h,decide_eq_true (show R<R+1 by omega)];decide⟩
 rw [this];rfl
theorem Cp.find (i:Nat) (v:aU) (x:dJ) (hv:vs[i]? =some v) (hx:X[i]? =some x):bK v=true/\findD (qU f lv s) (b7 v)=some x:=by
 obtain ⟨q,h1,h2,h3,h4⟩:=hP.aa4 (List.mem_of_getElem? hv)
 rw [hP.x,List.getElem?_map,hv] at hx
 cases hx
 refine ⟨by rw [<-h2];exact rV (hP.pb q h1),?_⟩
 unfold findD
 rw [if_neg (by unfold b7;simp),<-h2]
 show eM _ _=some ((eM (qU f lv s) (b7 q.name)).getD ⟨[],0,[]⟩)
 rw [hP.Xn h1];rfl
theorem Cp.aa5:findD (qU f lv s) (b7 p.name)=some ⟨b7 p.name,f (b7 p.name),bW p⟩:=by
 unfold findD
 rw [if_neg (by unfold b7;simp),hP.Xn hP.pin]
theorem Cp.aa6:findD (qU f lv s) (eF n.name)=some ⟨eF n.name,f (eF n.name),dQ n⟩:=by
 unfold findD
 rw [if_neg (by unfold eF;simp),hP.agR hP.nin]
end
open Go
def doO (uT:aU):Option (aU×List aU)->List V
 |none=>[.s [],.s [],.sl none 1 []]
 |some d=>[.s uT,.s d.1,.sl none 1 (d.2.map bG)]
structure aa7 (s:eG) (p:aO) (o:Option (aU×List aU)):Prop where
 f:∀ n vs,o=some (n,vs)->hY (cH s vs) p n=true/\vs.Nodup/\vs.length<=s.aF.length/\∀ v∈vs,∃ q∈s.aF,q.name=v/\q.prio<p.prio
section
variable {P:Program} (hG:bN P AF.fns.get)
include hG
theorem R6 (kJ:qC P) (hS:Al P 81 61) (w:eG) (p:aO) (pack:Bool) (Sz:w.ok) (hp:p.fit) (y5:Small w) (h6:w.nodes.length<=6) (h17:w.aF.length<=19) (lV:∀ q∈w.aF,iP q) (Xo:w.aF.Pairwise fun a b=>a.name≠b.name) (U3:w.nodes.Pairwise fun a b=>cC a.name b.name):
 ∃ o,aa7 w p o/\Pure P 13 [lT w,.agg (aJ p),.b pack] (·=.bY [.agg (doO p.name o),.b o.isSome]):=by
 have Bf:(iG w p).length<=6:=by
  rw [iG,List.length_map]
  exact Nat.le_trans (List.length_filter_le _ _) h6
 have k1:=best_ok hG w p pack Bf (where_ok hG kJ w p Sz hp y5 h6 U3) (fun node=>Og hG w p node pack Sz hp y5 lV)
 have k2:=evbest_ok hG kJ hS w p Sz hp y5 h6 h17 lV U3
 obtain ⟨b1,b2⟩:=LF (s:=w) (p:=p) (pack:=pack)
 generalize (xU w p pack).2=n at k1 b2
 generalize decide ((xU w p pack).1>=0)=x at k1 b1 b2
 have k3:=plan_ok hG w p pack n x (yP w p) k1 k2
 cases hwd:iG w p with
 |nil=>
  have:=b1 hwd
  subst this
  rw [if_neg (by decide)] at k3
  cases Bp:yP w p with
  |none=>
   rw [Bp] at k3
   exact ⟨none,⟨fun n vs e=>by cases e⟩,k3⟩
  |some d=>
   rw [Bp] at k3
   obtain ⟨d1,d2,dc⟩:=d
   have GP:=LD Bp
   refine ⟨some (d1,d2),⟨fun n vs e=>?_⟩,k3⟩
   cases e
   obtain ⟨q1,q2⟩:=N6 GP
   exact ⟨q1,LX Xo GP,Jx GP,fun v hv=>by obtain ⟨q,a,b,_,c⟩:=q2 v hv;exact ⟨q,a,b,c⟩⟩
 |cons y r=>
  obtain ⟨hx,hn⟩:=b2 (by rw [hwd];exact List.cons_ne_nil _ _)
  subst hx
  rw [if_pos rfl] at k3
  refine ⟨some (n,[]),⟨fun m vs e=>?_⟩,k3⟩
  cases e
  refine ⟨?_,List.nodup_nil,Nat.zero_le _,fun v hv=>by cases hv⟩
  rw [Jv]
  exact F4 hn
end
open Go
def qJ:aU:=[122,122]
theorem Uf {D:List dJ} {T:List (aU×Int)} {k:aU} {v:List Int} (hk:1<=k.length/\k.length<=20) (hv:v.length<=4000):tK D T [] [⟨k,v,false⟩]=0:=by
 unfold tK
 have h1:Bq [] [⟨k,v,false⟩]=true:=by
  unfold Bq
  rw [HX (fun w hw=>?_) (by simp) fun w _ h=>by cases h]
  · rfl
  · rw [List.mem_singleton.1 hw]
    refine ⟨?_,(fun h=>by cases h),hv⟩
    unfold yU;simp;omega
 rw [h1]
 simp [JU]
theorem OL {a p:aO}:∀ {L:List aO},xV L->a∈L->p∈L->a.name=p.name->a=p:=by
 intro L hL
 induction hL with
 |nil=>intro h;cases h
 |cons h _ ih=>
  intro a1 b1 e
  cases a1 with
  |head=>cases b1 with
   |head=>rfl
   |tail _ b=>exact absurd e (qI (h _ b))
  |tail _ a=>cases b1 with
   |head=>exact absurd e.symm (qI (h _ a))
   |tail _ b=>exact ih a b e
abbrev Hs (A:aA) (o o':Obj):aA:=(A.push o).set A.next o'
theorem Nc {A:aA} (o o':Obj):(Hs A o o').get A.next=some o':=aA.aD (aA.aC _ _)
theorem Xp {A:aA} {j:Nat} {x:Obj} (o o':Obj) (hx:A.get j=some x) (hj:j<A.next):(Hs A o o').get j=some x:=(FA j hj).trans hx
theorem yW {A:aA} {j:Nat} {x:Obj} (o:Obj) (hx:A.get j=some x) (hj:j<A.next):(A.push o).get j=some x:=aA.gp (Nat.ne_of_lt hj) hx
structure Zz (p0:aO):Prop where
 b:j0 p0=true
 name:p0.name=qJ
 node:p0.node=[]
 term:p0.term=0
section
variable {P:Program} (hG:bN P AF.fns.get) (hH:BW P 104 AF.Br=true)
include hG hH
theorem LY (hA:EE P) {h:aA} {a:Nat} {R:Int} {D:List dJ} {T:List (aU×Int)} (hs:SS h a R D T) (hR:R<=1000000) (k:aU) (v:List Int) (hk:1<=k.length/\k.length<=20) (hv:v.length<=4000) {K:V->aA->Prop}
 (hK:∀ h',SS h' a (R+1) (jJ D ⟨k,R+1,v⟩) (iQ T (R+1) [⟨k,v,false⟩])->K (.bY [.i .i64 (R+1),.i .i64 0]) h'):
 aB P 10 [.p (.g a) 0,.agg [.aV,.sl none 3 [[.s k,.sl none 1 (v.map gH),.b false]]]] h K:=by
 refine aB.leq (args':=[.p (.g a) 0,.agg [.sl none 3 [],.sl none 3 [[.s k,.sl none 1 (v.map gH),.b false]]]]) (hr:=⟨.inl rfl,.inr (.inr (.inl ⟨_,_,rfl,rfl,yM⟩)),trivial⟩) (h0:=?_)
 refine EM (gs:=[]) (ws:=[⟨k,v,false⟩]) hG hH hA hs hR (fun g hg=>by cases hg) (by decide) (fun w hw=>?_) (by simp) (fun he=>absurd (Uf hk hv) he) fun _ h' h1=>hK h' h1
 rw [List.mem_singleton.1 hw]
 exact ⟨⟨by show k.length<=_;omega,by show v.length<=_;omega⟩,by show v.length<=_;omega⟩
theorem Xq (hA:EE P) {h:aA} {a:Nat} {R:Int} {D:List dJ} {T:List (aU×Int)} (hs:SS h a R D T) (hR:R<=1000000) (k:aU) (hk:1<=k.length/\k.length<=20) {K:V->aA->Prop}
 (hK:∀ h',SS h' a (R+1) (jJ D ⟨k,R+1,[]⟩) (iQ T (R+1) [⟨k,[],false⟩])->K (.bY [.i .i64 (R+1),.i .i64 0]) h'):
 aB P 10 [.p (.g a) 0,.agg [.aV,.sl none 3 [[.s k,.aV,.b false]]]] h K:=by
 have hc:yZ gV ⟨0,0⟩ gA [.aV,.sl none 3 [[.s k,.aV,.b false]]] [.aV,.sl none 3 [[.s k,.sl none 1 [],.b false]]]:=⟨.A6 (Hz _).symm trivial,.rows (.cons (.cons (.refl _) (.cons (.nil _) (.cons (.refl _) .nil))) .nil),trivial⟩
 exact aB.leq (args':=[.p (.g a) 0,.agg [.aV,.sl none 3 [[.s k,.sl none 1 [],.b false]]]]) (hr:=⟨.inl rfl,.inr (.inr (.inl ⟨_,_,rfl,rfl,hc⟩)),trivial⟩) (h0:=LY hG hH hA hs hR k [] hk (Nat.zero_le _) hK)
end
end Go.Eng
