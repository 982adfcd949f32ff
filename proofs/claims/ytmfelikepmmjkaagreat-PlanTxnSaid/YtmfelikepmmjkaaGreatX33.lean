/-
A pod out of bytes.
-/
import Derived.Test.YtmfelikepmmjkaaGreatX32
import Derived.Test.YtmfelikepmmjkaaGreatX29
import Derived.Test.YtmfelikepmmjkaaGreatX25
import Derived.Sort.KeysCollected
import Derived.Sort.Walk0
import Derived.Test.YtmfelikepmmjkaaGreatX28
set_option linter.unusedVariables false
set_option linter.unusedSimpArgs false
set_option maxHeartbeats 32000000
set_option maxRecDepth 20000
namespace Go.Eng
open Go
structure Ja (p:aL):Prop where
 small:KV p
 name:eH p.name
 uid:0<=p.uid/\p.uid<=9223372036854775807
 prio:0<=p.prio/\p.prio<65536
 fQ:I6 p.fQ
 aN:∀ n∈p.aN,0<=n/\n<65536
 labels:∀ q∈p.labels,eH q.key/\eH q.val
 lM:∀ t∈p.lM,Ar t
 bW:∀ t∈p.bW,eH t.key/\eH t.val
 eG:eH p.eG
 cV:∀ t∈p.cV,Ar t
 lD:0<=p.lD/\p.lD<256
 even:∀ t∈p.even,Ar t
 node:eH p.node
 term:0<=p.term/\p.term<=9223372036854775807
def adD (lc:aA) (k:Nat) (bv:V) (rows:List (List V)):Prop:=(rows=[]/\bv=.aS)\/∃ t,bv=.sl (some (.l t)) k rows/\1<t/\t<lc.next/\lc.get t=some .spare/\rows≠[]
def KY:List V:=[.s [],.i .i64 0,.i .i64 0,.i .i64 0,.i .i64 0,.i .i64 0,.aS,.aS,.aS,.aS,.s [],.aS,.i .i64 0,.aS,.s [],.i .i64 0]
def Ou (p:aL) (pv:V):List V:=[.s p.name,.i .i64 p.uid,.i .i64 p.prio,.i .i64 p.fQ.a,.i .i64 p.fQ.b,.i .i64 p.fQ.c,pv,.aS,.aS,.aS,.s [],.aS,.i .i64 0,.aS,.s [],.i .i64 0]
def Ov (p:aL) (pv tv:V):List V:=[.s p.name,.i .i64 p.uid,.i .i64 p.prio,.i .i64 p.fQ.a,.i .i64 p.fQ.b,.i .i64 p.fQ.c,pv,.sl none 2 (p.labels.map aY),.sl none 3 (p.lM.map bA),tv,.s [],.aS,.i .i64 0,.aS,.s [],.i .i64 0]
theorem uN {fr:Fr} {st:St} {rs:List RV} {v:V} {K:V->aA->Prop} (h:eX fr st rs=some v) (hK:K v st.g):wC rs K .ret fr st:=by
 show (match eX fr st rs with|some v=>K v st.g|none=>False)
 rw [h];exact hK
theorem uO {fr:Fr} {st:St} {k t:Nat} {j:Key} {c cs:List V} {v:V} {b:Bool} (h1:fr.get k=.p j 0) (h2:st.get j=some (.cs c)) (h3:dS c 0 (some 16)=some v) (h5:v.pass=some (.agg cs)) (h4:fr.get t=.b b):eX fr st [.cell k (some 16),.t t]=some (.bY [.agg cs,.b b]):=by
 have e1:sD fr st (.cell k (some 16))=some (.agg cs):=by
  unfold sD
  simp only [h1,h2,h3,h5]
 have e2:sD fr st (.t t)=some (.b b):=by
  show (fr.get t).pass=_
  rw [h4];rfl
 unfold eX
 simp only [nO,e1,e2]
theorem M9 (p:aL):0<(bZ p).length:=by
 unfold bZ
 simp only [List.length_append,aV]
 omega
section
variable {P:Program} (hG:bP P AF.fns.get)
include hG
theorem rget0_at (eN:dQ P 285) (p:aL) (hp:Ja p) (hm:Pure P 115 [.agg (aI p)] (·=.b true)) {h:aA} {K:V->aA->Prop}
 (hK:∀ cs h',Ah gV ⟨0,0⟩ gG cs (aI p)->aA.aJ (fun _=>False) h h'->K (.bY [.agg cs,.b true]) h'):aC P 53 [.sl none 1 ((bZ p).map hM)] h K:=by
 obtain ⟨S17,YN⟩:∃ S:List Int,S=[]:=⟨_,rfl⟩
 have l17:S17.length<=0:=by rw [YN];exact Nat.le_refl _
 obtain ⟨S16,YM⟩:∃ S:List Int,S=dI p.term 8++S17:=⟨_,rfl⟩
 have l16:S16.length<=8:=by rw [YM,List.length_append];rw [aV];omega
 obtain ⟨S15,YL⟩:∃ S:List Int,S=bV p.node++S16:=⟨_,rfl⟩
 have l15:S15.length<=16:=by rw [YL,List.length_append];rw [bN];omega
 obtain ⟨S14,YK⟩:∃ S:List Int,S=fB p.even++S15:=⟨_,rfl⟩
 have l14:S14.length<=81017:=by rw [YK,List.length_append];have:=kE hp.small.even hp.small.Tn;omega
 obtain ⟨S13,YJ⟩:∃ S:List Int,S=dI p.lD 1++S14:=⟨_,rfl⟩
 have l13:S13.length<=81018:=by rw [YJ,List.length_append];rw [aV];omega
 obtain ⟨S12,YI⟩:∃ S:List Int,S=fB p.cV++S13:=⟨_,rfl⟩
 have l12:S12.length<=162019:=by rw [YI,List.length_append];have:=kE hp.small.cV hp.small.Tm;omega
 obtain ⟨S11,YG⟩:∃ S:List Int,S=bV p.eG++S12:=⟨_,rfl⟩
 have l11:S11.length<=162027:=by rw [YG,List.length_append];rw [bN];omega
 obtain ⟨S10,W2⟩:∃ S:List Int,S=p.bW.flatMap jB++S11:=⟨_,rfl⟩
 have l10:S10.length<=163727:=by rw [W2,List.length_append];have:=eV jB 17 p.bW fun t _=>Nat.le_of_eq (qW t);have:=hp.small.bW;omega
 obtain ⟨S9,e9⟩:∃ S:List Int,S=dI p.bW.length 1++S10:=⟨_,rfl⟩
 have l9:S9.length<=163728:=by rw [e9,List.length_append];rw [aV];omega
 obtain ⟨S8,e8⟩:∃ S:List Int,S=fB p.lM++S9:=⟨_,rfl⟩
 have l8:S8.length<=244729:=by rw [e8,List.length_append];have:=kE hp.small.lM hp.small.YE;omega
 obtain ⟨S7,e7⟩:∃ S:List Int,S=dV p.labels++S8:=⟨_,rfl⟩
 have l7:S7.length<=246330:=by rw [e7,List.length_append];have:=kG hp.small.labels;omega
 obtain ⟨S6,e6⟩:∃ S:List Int,S=p.aN.flatMap kD++S7:=⟨_,rfl⟩
 have l6:S6.length<=246530:=by rw [e6,List.length_append];have:=eV kD 2 p.aN fun _ _=>Nat.le_of_eq (aV _ _);have:=hp.small.aN;omega
 obtain ⟨S5,e5⟩:∃ S:List Int,S=dI p.aN.length 1++S6:=⟨_,rfl⟩
 have l5:S5.length<=246531:=by rw [e5,List.length_append];rw [aV];omega
 obtain ⟨S4,e4⟩:∃ S:List Int,S=pC p.fQ++S5:=⟨_,rfl⟩
 have l4:S4.length<=246543:=by rw [e4,List.length_append];rw [nK];omega
 obtain ⟨S3,e3⟩:∃ S:List Int,S=dI p.prio 2++S4:=⟨_,rfl⟩
 have l3:S3.length<=246545:=by rw [e3,List.length_append];rw [aV];omega
 obtain ⟨S2,e2⟩:∃ S:List Int,S=dI p.uid 8++S3:=⟨_,rfl⟩
 have l2:S2.length<=246553:=by rw [e2,List.length_append];rw [aV];omega
 obtain ⟨S1,e1⟩:∃ S:List Int,S=bV p.name++S2:=⟨_,rfl⟩
 have l1:S1.length<=246561:=by rw [e1,List.length_append];rw [bN];omega
 obtain ⟨S0,e0⟩:∃ S:List Int,S=dI 1 1++S1:=⟨_,rfl⟩
 have l0:S0.length<=246562:=by rw [e0,List.length_append];rw [aV];omega
 have hS0:bZ p=S0:=by
  rw [e0,e1,e2,e3,e4,e5,e6,e7,e8,e9,W2,YG,YI,YJ,YK,YL,YM,YN]
  unfold bZ Bi DL
  simp only [List.append_assoc,List.append_nil]
 have fU:=M9 p
 rw [hS0] at fU ⊢
 have yR:=fun K hK=>rnew_at (K:=K) hG (h:=h) S0 (by omega) hK
 refine aQ (hG _ AF.f53 rfl) rfl ?_
 (refine cD @yR ?_)
 intro hA rA kA
 rw [e0] at rA
 have c0:=fun K hK=>rnumI_at (K:=K) hG rA (by omega) (by omega) (by decide) (by omega) (by omega) hK
 (refine cD @c0 ?_)
 intro h0 r0 k0
 rw [e1] at r0
 have c1:=fun K hK=>rname_at (K:=K) hG eN r0 hp.name (by omega) hK
 (refine cD @c1 ?_)
 intro h1 r1 k1
 rw [e2] at r1
 have c2:=fun K hK=>rnumI_at (K:=K) hG r1 (by omega) hp.uid.1 (by show p.uid<(18446744073709551616:Int);have:=hp.uid.2;omega) hp.uid.2 (by omega) hK
 (refine cD @c2 ?_)
 intro h2 r2 k2
 rw [e3] at r2
 have c3:=fun K hK=>rnumI_at (K:=K) hG r2 (by omega) hp.prio.1 (by show p.prio<(65536:Int);exact hp.prio.2) (by have:=hp.prio.2;omega) (by omega) hK
 (refine cD @c3 ?_)
 intro h3 r3 k3
 rw [e4] at r3
 have c4:=fun K hK=>rres_at (K:=K) hG r3 hp.fQ (by omega) hK
 (refine cD @c4 ?_)
 intro h4 r4 k4
 rw [e5] at r4
 have Wq:=hp.small.aN
 have fE:=qX kD (fun n=>by show 1<=(dI n 2).length;rw [aV];omega) p.aN
 have c5:=fun K hK=>rcount_at (K:=K) hG r4 (by omega) (by rw [e6,List.length_append];omega) (by omega) hK
 (refine cD @c5 ?_)
 intro h5 r5 k5
 rw [e6] at r5
 have kk5:=((((k0.trans k1).trans k2).trans k3).trans k4).trans k5
 (refine zr ?_)
 refine b8.by (fun q fr st=>∃ (i:Nat) (hh lj:aA) (m':Bool) (pv:V),i<=p.aN.length/\q=p.aN.length - i/\hU hh h.next m' ((p.aN.drop i).flatMap kD++S7)/\aA.aJ (fun n=>n=h.next) hA hh/\
  1<lj.next/\lj.get 0=some (.cs KY)/\lj.get 1=some (.cs (Ou p pv))/\adD lj 1 pv ((p.aN.take i).map fA)/\
  Fr.le [(21,.i .i64 i),(20,.i .i64 p.aN.length),(5,.p (.l 1) 0),(4,.p (.g h.next) 0),(2,.p (.l 0) 0),(0,.sl none 1 (S0.map hM))] fr/\st=⟨hh,lj⟩)
  p.aN.length ⟨0,h5,_,_,.aS,Nat.zero_le _,rfl,r5,kk5,Nat.lt_succ_self _,rfl,rfl,.inl ⟨rfl,rfl⟩,cT,rfl⟩ ?_
 rintro q fr st ⟨i,hh,lj,m',pv,hi,rfl,lW,hk,VI,z0,b0,hpv,dE,rfl⟩
 refine ⟨_,dE,fun R hR=>?_⟩
 by_cases cY:i<p.aN.length
 · have he:=List.getElem?_eq_getElem cY
   have yK:=hp.aN _ (List.getElem_mem cY)
   generalize p.aN[i]=x at he yK
   have hd:=lO kD he
   have YQ:=eU kD 2 p.aN (i+1) fun _ _=>Nat.le_of_eq (aV _ _)
   rw [hd,List.append_assoc] at lW
   have jM:(p.aN.take (i+1)).map fA=(p.aN.take i).map fA++[fA x]:=by rw [List.take_add_one,he];simp
   have BJ:((p.aN.take i).map fA).length<=100:=by simp;omega
   have c:=fun K hK=>rnumI_at (K:=K) hG lW (by omega) yK.1 (by show x<(65536:Int);exact yK.2) (by have:=yK.2;omega) (by rw [List.length_append];omega) hK
   have p1:(lj.push .spare).get 1=some (.cs (Ou p pv)):=aA.gp (by omega) b0
   rcases hpv with ⟨uH,rfl⟩|⟨t,rfl,Jy,yU,ZV,dJ⟩
   · have p2:((lj.push .spare).push .spare).get 1=some (.cs (Ou p .aS)):=aA.gp (by show 1≠lj.next+1;omega) p1
     (refine qR (show (i:Int)<(p.aN.length:Nat) by omega) @c @b0 ?_)
     intro h' r' q'
     (refine qR @b0 @p1 @p2 ?_)
     exact hR (p.aN.length - (i+1)) _ _ (by omega) ⟨i+1,h',_,m',_,by omega,rfl,r',hk.trans q',(by show 1<lj.next+1+1;omega),aA.gs (by omega) (aA.gp (by show 0≠lj.next+1;omega) (aA.gp (by omega) z0)),aA.aD p2,.inr ⟨lj.next+1,by first|(rw [jM,uH];done)|(rw [jM,uH];rfl),by omega,Nat.lt_succ_self _,aA.gs (by omega) (aA.aB _ _),by rw [jM];simp⟩,cT,rfl⟩
   · have f0:(lj.push .spare).get t=some .spare:=aA.gp (by omega) ZV
     have p3:(((lj.push .spare).remove t).push .spare).get 1=some (.cs (Ou p (.sl (some (.l t)) 1 ((p.aN.take i).map fA)))):=aA.gp (by show 1≠lj.next+1;omega) (aA.gr (by omega) p1)
     (refine qR (show (i:Int)<(p.aN.length:Nat) by omega) @c @b0 ?_)
     intro h' r' q'
     ((conv=>whnf);repeat ((first|refine aR.gA (by omega) (by omega) ?_|refine aM.mk (by simp only [bT];exact decide_eq_true (by simp at BJ ⊢;omega)) ?_|refine ye (b0) ?_|refine ye (p1) ?_|refine ye (p3) ?_|refine ye (f0) ?_|refine zz ?_)<;>(conv=>whnf)))
     exact hR (p.aN.length - (i+1)) _ _ (by omega) ⟨i+1,h',_,m',_,by omega,rfl,r',hk.trans q',(by show 1<lj.next+1+1;omega),aA.gs (by omega) (aA.gp (by show 0≠lj.next+1;omega) (aA.gr (by omega) (aA.gp (by omega) z0))),aA.aD p3,.inr ⟨lj.next+1,by first|(rw [jM];done)|(rw [jM];rfl),by omega,Nat.lt_succ_self _,aA.gs (by omega) (aA.aB _ _),by rw [jM];simp⟩,cT,rfl⟩
 obtain rfl:i=p.aN.length:=by omega
 rw [List.drop_length,List.flatMap_nil,List.nil_append,e7] at lW
 rw [List.take_length] at hpv
 have q1:∀ o,(lj.set 1 o).get 1=some o:=fun o=>aA.aD b0
 have q2:∀ o o2,((lj.set 1 o).set 1 o2).get 1=some o2:=fun o o2=>aA.aD (q1 o)
 have c7:=fun K hK=>rpairs2_at (K:=K) hG eN lW hp.small.labels hp.labels (by omega) hK
 (refine qR (show ¬((p.aN.length:Nat):Int)<(p.aN.length:Nat) by omega) @c7 @b0 ?_)
 intro h7 m7 r7 k7
 rw [e8] at r7
 have c8:=fun K hK=>rterms2_at (K:=K) hG eN r7 hp.small.lM hp.lM (by omega) hK
 (refine qR @c8 @b0 @q1 ?_)
 intro h8 m8 r8 k8
 rw [e9] at r8
 have hts:=hp.small.bW
 have YU:=qX jB (fun t=>by rw [qW];omega) p.bW
 have c9:=fun K hK=>rcount_at (K:=K) hG r8 (by omega) (by rw [W2,List.length_append];omega) (by omega) hK
 (refine N9 @c9 @b0 @q1 @q2 ?_)
 intro h9 r9 k9
 rw [W2] at r9
 have kk9:=((hk.trans k7).trans k8).trans k9
 (refine zr ?_)
 refine b8.by (fun q fr st=>∃ (i:Nat) (hh lj:aA) (m':Bool) (tv':V),i<=p.bW.length/\q=p.bW.length - i/\hU hh h.next m' ((p.bW.drop i).flatMap jB++S11)/\aA.aJ (fun n=>n=h.next) hA hh/\
  1<lj.next/\lj.get 0=some (.cs KY)/\lj.get 1=some (.cs (Ov p pv tv'))/\adD lj 3 tv' ((p.bW.take i).map eP)/\
  Fr.le [(39,.i .i64 i),(38,.i .i64 p.bW.length),(5,.p (.l 1) 0),(4,.p (.g h.next) 0),(2,.p (.l 0) 0),(0,.sl none 1 (S0.map hM))] fr/\st=⟨hh,lj⟩)
  p.bW.length ⟨0,h9,_,_,.aS,Nat.zero_le _,rfl,r9,kk9,(by exact VI),aA.gs (by omega) (aA.gs (by omega) z0),q2 _ _,.inl ⟨rfl,rfl⟩,cT,rfl⟩ ?_
 clear VI z0 b0 q1 q2 c7 c8 c9
 rintro q fr st ⟨i,hh,lj,m',tv',hi,rfl,lW,hk,VI,z0,b0,htv,Cq,rfl⟩
 refine ⟨_,Cq,fun R hR=>?_⟩
 by_cases cY:i<p.bW.length
 · have he:=List.getElem?_eq_getElem cY
   have yK:=hp.bW _ (List.getElem_mem cY)
   generalize p.bW[i]=x at he yK
   have hd:=lO jB he
   have YQ:=eU jB 17 p.bW (i+1) fun t _=>Nat.le_of_eq (qW t)
   rw [hd] at lW
   unfold jB at lW
   rw [List.append_assoc,List.append_assoc,List.append_assoc] at lW
   change hU hh h.next m' (bV x.key++(bV x.val++(yI x.any++((p.bW.drop (i+1)).flatMap jB++S11)))) at lW
   have jM:(p.bW.take (i+1)).map eP=(p.bW.take i).map eP++[eP x]:=by rw [List.take_add_one,he];simp
   have BJ:((p.bW.take i).map eP).length<=100:=by simp;omega
   have UD:(yI x.any).length=1:=aV _ _
   have p1:(lj.push .spare).get 1=some (.cs (Ov p pv tv')):=aA.gp (by omega) b0
   have d1:=fun K hK=>rname_at (K:=K) hG eN lW yK.1 (by rw [List.length_append,List.length_append,List.length_append,bN,UD];omega) hK
   rcases htv with ⟨uH,rfl⟩|⟨t,rfl,Jy,yU,ZV,dJ⟩
   all_goals
    (refine qR (show (i:Int)<(p.bW.length:Nat) by omega) @d1 @b0 ?_)
    intro ha ra ka
    have d2:=fun K hK=>rname_at (K:=K) hG eN ra yK.2 (by rw [List.length_append,List.length_append,UD];omega) hK
    (refine iG @d2 @b0 ?_)
    intro H0 rb kb
    have d3:=fun K hK=>rbool_at (K:=K) hG rb (by rw [List.length_append];omega) hK
    (refine iG @d3 @b0 ?_)
    intro hc rc kc
   · have p2:((lj.push .spare).push .spare).get 1=some (.cs (Ov p pv .aS)):=aA.gp (by show 1≠lj.next+1;omega) p1
     (refine qR @b0 @p1 @p2 ?_)
     exact hR (p.bW.length - (i+1)) _ _ (by omega) ⟨i+1,hc,_,_,_,by omega,rfl,rc,((hk.trans ka).trans kb).trans kc,(by show 1<lj.next+1+1;omega),aA.gs (by omega) (aA.gp (by show 0≠lj.next+1;omega) (aA.gp (by omega) z0)),aA.aD p2,.inr ⟨lj.next+1,by first|(rw [jM,uH];done)|(rw [jM,uH];rfl),by omega,Nat.lt_succ_self _,aA.gs (by omega) (aA.aB _ _),by rw [jM];simp⟩,cT,rfl⟩
   · have f0:(lj.push .spare).get t=some .spare:=aA.gp (by omega) ZV
     have p3:(((lj.push .spare).remove t).push .spare).get 1=some (.cs (Ov p pv (.sl (some (.l t)) 3 ((p.bW.take i).map eP)))):=aA.gp (by show 1≠lj.next+1;omega) (aA.gr (by omega) p1)
     ((conv=>whnf);repeat ((first|refine aR.gA (by omega) (by omega) ?_|refine aM.mk (by simp only [bT];exact decide_eq_true (by simp at BJ ⊢;omega)) ?_|refine ye (b0) ?_|refine ye (p1) ?_|refine ye (p3) ?_|refine ye (f0) ?_|refine zz ?_)<;>(conv=>whnf)))
     exact hR (p.bW.length - (i+1)) _ _ (by omega) ⟨i+1,hc,_,_,_,by omega,rfl,rc,((hk.trans ka).trans kb).trans kc,(by show 1<lj.next+1+1;omega),aA.gs (by omega) (aA.gp (by show 0≠lj.next+1;omega) (aA.gr (by omega) (aA.gp (by omega) z0))),aA.aD p3,.inr ⟨lj.next+1,by first|(rw [jM];done)|(rw [jM];rfl),by omega,Nat.lt_succ_self _,aA.gs (by omega) (aA.aB _ _),by rw [jM];simp⟩,cT,rfl⟩
 obtain rfl:i=p.bW.length:=by omega
 rw [List.drop_length,List.flatMap_nil,List.nil_append,YG] at lW
 rw [List.take_length] at htv
 have q1:∀ o,(lj.set 1 o).get 1=some o:=fun o=>aA.aD b0
 have q2:∀ o o2,((lj.set 1 o).set 1 o2).get 1=some o2:=fun o o2=>aA.aD (q1 o)
 have q3:∀ o o2 o3,(((lj.set 1 o).set 1 o2).set 1 o3).get 1=some o3:=fun o o2 o3=>aA.aD (q2 o o2)
 have q4:∀ o o2 o3 o4,((((lj.set 1 o).set 1 o2).set 1 o3).set 1 o4).get 1=some o4:=fun o o2 o3 o4=>aA.aD (q3 o o2 o3)
 have q5:∀ o o2 o3 o4 o5,(((((lj.set 1 o).set 1 o2).set 1 o3).set 1 o4).set 1 o5).get 1=some o5:=fun o o2 o3 o4 o5=>aA.aD (q4 o o2 o3 o4)
 have q6:∀ o o2 o3 o4 o5 o6,((((((lj.set 1 o).set 1 o2).set 1 o3).set 1 o4).set 1 o5).set 1 o6).get 1=some o6:=fun o o2 o3 o4 o5 o6=>aA.aD (q5 o o2 o3 o4 o5)
 have z6:∀ o o2 o3 o4 o5 o6,((((((lj.set 1 o).set 1 o2).set 1 o3).set 1 o4).set 1 o5).set 1 o6).get 0=some (.cs KY):=fun o o2 o3 o4 o5 o6=>aA.gs (by omega) (aA.gs (by omega) (aA.gs (by omega) (aA.gs (by omega) (aA.gs (by omega) (aA.gs (by omega) z0)))))
 have z7:∀ o o2 o3 o4 o5 o6 o7,(((((((lj.set 1 o).set 1 o2).set 1 o3).set 1 o4).set 1 o5).set 1 o6).set 0 o7).get 0=some o7:=fun o o2 o3 o4 o5 o6 o7=>aA.aD (z6 o o2 o3 o4 o5 o6)
 have ZT:=fun K hK=>rname_at (K:=K) hG eN lW hp.eG (by omega) hK
 (refine qR (show ¬((p.bW.length:Nat):Int)<(p.bW.length:Nat) by omega) @ZT @b0 ?_)
 intro LI r11 YH
 rw [YI] at r11
 have ZO:=fun K hK=>rterms2_at (K:=K) hG eN r11 hp.small.cV hp.cV (by omega) hK
 (refine qR @ZO @b0 @q1 ?_)
 intro Jx m12 r12 VA
 rw [YJ] at r12
 have ZP:=fun K hK=>rnumI_at (K:=K) hG r12 (by omega) hp.lD.1 (by show p.lD<(256:Int);exact hp.lD.2) (by have:=hp.lD.2;omega) (by omega) hK
 (refine N9 @ZP @b0 @q1 @q2 ?_)
 intro Vy r13 k13
 rw [YK] at r13
 have ZQ:=fun K hK=>rterms2_at (K:=K) hG eN r13 hp.small.even hp.even (by omega) hK
 (refine IV @ZQ @b0 @q1 @q2 @q3 ?_)
 intro ZM m14 r14 VB
 rw [YL] at r14
 have ZR:=fun K hK=>rname_at (K:=K) hG eN r14 hp.node (by omega) hK
 (refine WN @ZR @b0 @q1 @q2 @q3 @q4 ?_)
 intro h15 r15 k15
 rw [YM] at r15
 have c16:=fun K hK=>rnumI_at (K:=K) hG r15 (by omega) hp.term.1 (by show p.term<(18446744073709551616:Int);have:=hp.term.2;omega) hp.term.2 (by omega) hK
 (refine zr7 @c16 @b0 @q1 @q2 @q3 @q4 @q5 ?_)
 intro Vz r16 k16
 rw [YN] at r16
 have VK:=(((((hk.trans YH).trans VA).trans k13).trans VB).trans k15).trans k16
 have hSl:(S0.map hM).length=S0.length:=List.length_map _
 have cE:=fun K hK=>rend_at (K:=K) hG r16 hK
 have cP:=fun K hK=>wput_at (K:=K) hG eN p hp.small hm (h:=Vz) hK
 have cQ:=fun (h':aA) K hK=>beq_at (K:=K) (h:=h') hG S0 hK
 rw [hS0] at cP
 rcases hpv with ⟨adG,rfl⟩|⟨t1,rfl,_,_,_,Oc⟩<;>rcases htv with ⟨adH,rfl⟩|⟨t2,rfl,_,_,_,YV⟩
 · have F8:p.aN=[]:=by simpa using adG
   have YW:p.bW=[]:=by simpa using adH
   have Na:aI p=[.s p.name,.i .i64 p.uid,.i .i64 p.prio,.i .i64 p.fQ.a,.i .i64 p.fQ.b,.i .i64 p.fQ.c,.sl none 1 [],.sl none 2 (p.labels.map aY),.sl none 3 (p.lM.map bA),.sl none 3 [],.s p.eG,.sl none 3 (p.cV.map bA),.i .i64 p.lD,.sl none 3 (p.even.map bA),.s p.node,.i .i64 p.term]:=by unfold aI;rw [F8,YW];rfl
   have FC:Ah gV ⟨0,0⟩ gG [.s p.name,.i .i64 p.uid,.i .i64 p.prio,.i .i64 p.fQ.a,.i .i64 p.fQ.b,.i .i64 p.fQ.c,.aS,.sl none 2 (p.labels.map aY),.sl none 3 (p.lM.map bA),.aS,.s p.eG,.sl none 3 (p.cV.map bA),.i .i64 p.lD,.sl none 3 (p.even.map bA),.s p.node,.i .i64 p.term] (aI p):=by
    rw [Na]
    exact yZ
   ((conv=>whnf);repeat ((first|refine cA (cE _) ?_|refine aH.df (show ¬((S0.map hM).length:Int)=0 by omega) ?_|refine ye (b0) ?_|refine ye (q1 _) ?_|refine ye (q2 _ _) ?_|refine ye (q3 _ _ _) ?_|refine ye (q4 _ _ _ _) ?_|refine ye (q5 _ _ _ _ _) ?_|refine ye (q6 _ _ _ _ _ _) ?_|refine zz ?_)<;>(conv=>whnf)))
   refine dF.mk (aC.less (args':=[.agg (aI p)]) (hr:=⟨.inr (.inl ⟨_,_,rfl,rfl,FC⟩),trivial⟩) (h0:=cP _ fun h' KZ=>?_))
   ((conv=>whnf);repeat ((first|refine cA (cQ h' _) ?_|refine ye (b0) ?_|refine ye (q1 _) ?_|refine ye (q2 _ _) ?_|refine ye (q3 _ _ _) ?_|refine ye (q4 _ _ _ _) ?_|refine ye (q5 _ _ _ _ _) ?_|refine ye (q6 _ _ _ _ _ _) ?_|refine ye (z6 _ _ _ _ _ _) ?_|refine zz ?_)<;>(conv=>whnf)))
   have FD:aA.aJ (fun _=>False) h h':=(aA.aJ.trans (b:=fun n=>n=h.next) (kA.mono fun _ _ e=>e.elim) (aA.aJ.trans (b:=fun n=>n=h.next) VK (KZ.mono fun _ _ e=>e.elim))).mono fun n hn e=>absurd hn (by omega)
   refine uN (rs:=AF.f53.results) (v:=.bY [.agg [.s p.name,.i .i64 p.uid,.i .i64 p.prio,.i .i64 p.fQ.a,.i .i64 p.fQ.b,.i .i64 p.fQ.c,.aS,.sl none 2 (p.labels.map aY),.sl none 3 (p.lM.map bA),.aS,.s p.eG,.sl none 3 (p.cV.map bA),.i .i64 p.lD,.sl none 3 (p.even.map bA),.s p.node,.i .i64 p.term],.b true]) ?_ (hK _ _ FC FD)
   exact uO rfl (z7 _ _ _ _ _ _ _) rfl rfl rfl
 · have F8:p.aN=[]:=by simpa using adG
   have Na:aI p=[.s p.name,.i .i64 p.uid,.i .i64 p.prio,.i .i64 p.fQ.a,.i .i64 p.fQ.b,.i .i64 p.fQ.c,.sl none 1 [],.sl none 2 (p.labels.map aY),.sl none 3 (p.lM.map bA),.sl none 3 (p.bW.map eP),.s p.eG,.sl none 3 (p.cV.map bA),.i .i64 p.lD,.sl none 3 (p.even.map bA),.s p.node,.i .i64 p.term]:=by unfold aI;rw [F8];rfl
   have FC:Ah gV ⟨0,0⟩ gG [.s p.name,.i .i64 p.uid,.i .i64 p.prio,.i .i64 p.fQ.a,.i .i64 p.fQ.b,.i .i64 p.fQ.c,.aS,.sl none 2 (p.labels.map aY),.sl none 3 (p.lM.map bA),.sl none 3 (p.bW.map eP),.s p.eG,.sl none 3 (p.cV.map bA),.i .i64 p.lD,.sl none 3 (p.even.map bA),.s p.node,.i .i64 p.term] (aI p):=by
    rw [Na]
    exact yZ
   ((conv=>whnf);repeat ((first|refine cA (cE _) ?_|refine aH.df (show ¬((S0.map hM).length:Int)=0 by omega) ?_|refine ye (b0) ?_|refine ye (q1 _) ?_|refine ye (q2 _ _) ?_|refine ye (q3 _ _ _) ?_|refine ye (q4 _ _ _ _) ?_|refine ye (q5 _ _ _ _ _) ?_|refine ye (q6 _ _ _ _ _ _) ?_|refine zz ?_)<;>(conv=>whnf)))
   refine dF.mk (aC.less (args':=[.agg (aI p)]) (hr:=⟨.inr (.inl ⟨_,_,rfl,rfl,FC⟩),trivial⟩) (h0:=cP _ fun h' KZ=>?_))
   ((conv=>whnf);repeat ((first|refine cA (cQ h' _) ?_|refine ye (b0) ?_|refine ye (q1 _) ?_|refine ye (q2 _ _) ?_|refine ye (q3 _ _ _) ?_|refine ye (q4 _ _ _ _) ?_|refine ye (q5 _ _ _ _ _) ?_|refine ye (q6 _ _ _ _ _ _) ?_|refine ye (z6 _ _ _ _ _ _) ?_|refine zz ?_)<;>(conv=>whnf)))
   have FD:aA.aJ (fun _=>False) h h':=(aA.aJ.trans (b:=fun n=>n=h.next) (kA.mono fun _ _ e=>e.elim) (aA.aJ.trans (b:=fun n=>n=h.next) VK (KZ.mono fun _ _ e=>e.elim))).mono fun n hn e=>absurd hn (by omega)
   refine uN (rs:=AF.f53.results) (v:=.bY [.agg [.s p.name,.i .i64 p.uid,.i .i64 p.prio,.i .i64 p.fQ.a,.i .i64 p.fQ.b,.i .i64 p.fQ.c,.aS,.sl none 2 (p.labels.map aY),.sl none 3 (p.lM.map bA),.sl none 3 (p.bW.map eP),.s p.eG,.sl none 3 (p.cV.map bA),.i .i64 p.lD,.sl none 3 (p.even.map bA),.s p.node,.i .i64 p.term],.b true]) ?_ (hK _ _ FC FD)
   exact uO rfl (z7 _ _ _ _ _ _ _) rfl rfl rfl
 · have YW:p.bW=[]:=by simpa using adH
   have Na:aI p=[.s p.name,.i .i64 p.uid,.i .i64 p.prio,.i .i64 p.fQ.a,.i .i64 p.fQ.b,.i .i64 p.fQ.c,.sl none 1 (p.aN.map fA),.sl none 2 (p.labels.map aY),.sl none 3 (p.lM.map bA),.sl none 3 [],.s p.eG,.sl none 3 (p.cV.map bA),.i .i64 p.lD,.sl none 3 (p.even.map bA),.s p.node,.i .i64 p.term]:=by unfold aI;rw [YW];rfl
   have FC:Ah gV ⟨0,0⟩ gG [.s p.name,.i .i64 p.uid,.i .i64 p.prio,.i .i64 p.fQ.a,.i .i64 p.fQ.b,.i .i64 p.fQ.c,.sl none 1 (p.aN.map fA),.sl none 2 (p.labels.map aY),.sl none 3 (p.lM.map bA),.aS,.s p.eG,.sl none 3 (p.cV.map bA),.i .i64 p.lD,.sl none 3 (p.even.map bA),.s p.node,.i .i64 p.term] (aI p):=by
    rw [Na]
    exact yZ
   ((conv=>whnf);repeat ((first|refine cA (cE _) ?_|refine aH.df (show ¬((S0.map hM).length:Int)=0 by omega) ?_|refine ye (b0) ?_|refine ye (q1 _) ?_|refine ye (q2 _ _) ?_|refine ye (q3 _ _ _) ?_|refine ye (q4 _ _ _ _) ?_|refine ye (q5 _ _ _ _ _) ?_|refine ye (q6 _ _ _ _ _ _) ?_|refine zz ?_)<;>(conv=>whnf)))
   refine dF.mk (aC.less (args':=[.agg (aI p)]) (hr:=⟨.inr (.inl ⟨_,_,rfl,rfl,FC⟩),trivial⟩) (h0:=cP _ fun h' KZ=>?_))
   ((conv=>whnf);repeat ((first|refine cA (cQ h' _) ?_|refine ye (b0) ?_|refine ye (q1 _) ?_|refine ye (q2 _ _) ?_|refine ye (q3 _ _ _) ?_|refine ye (q4 _ _ _ _) ?_|refine ye (q5 _ _ _ _ _) ?_|refine ye (q6 _ _ _ _ _ _) ?_|refine ye (z6 _ _ _ _ _ _) ?_|refine zz ?_)<;>(conv=>whnf)))
   have FD:aA.aJ (fun _=>False) h h':=(aA.aJ.trans (b:=fun n=>n=h.next) (kA.mono fun _ _ e=>e.elim) (aA.aJ.trans (b:=fun n=>n=h.next) VK (KZ.mono fun _ _ e=>e.elim))).mono fun n hn e=>absurd hn (by omega)
   refine uN (rs:=AF.f53.results) (v:=.bY [.agg [.s p.name,.i .i64 p.uid,.i .i64 p.prio,.i .i64 p.fQ.a,.i .i64 p.fQ.b,.i .i64 p.fQ.c,.sl none 1 (p.aN.map fA),.sl none 2 (p.labels.map aY),.sl none 3 (p.lM.map bA),.aS,.s p.eG,.sl none 3 (p.cV.map bA),.i .i64 p.lD,.sl none 3 (p.even.map bA),.s p.node,.i .i64 p.term],.b true]) ?_ (hK _ _ FC FD)
   exact uO rfl (z7 _ _ _ _ _ _ _) rfl rfl rfl
 · have Na:aI p=[.s p.name,.i .i64 p.uid,.i .i64 p.prio,.i .i64 p.fQ.a,.i .i64 p.fQ.b,.i .i64 p.fQ.c,.sl none 1 (p.aN.map fA),.sl none 2 (p.labels.map aY),.sl none 3 (p.lM.map bA),.sl none 3 (p.bW.map eP),.s p.eG,.sl none 3 (p.cV.map bA),.i .i64 p.lD,.sl none 3 (p.even.map bA),.s p.node,.i .i64 p.term]:=rfl
   have FC:Ah gV ⟨0,0⟩ gG [.s p.name,.i .i64 p.uid,.i .i64 p.prio,.i .i64 p.fQ.a,.i .i64 p.fQ.b,.i .i64 p.fQ.c,.sl none 1 (p.aN.map fA),.sl none 2 (p.labels.map aY),.sl none 3 (p.lM.map bA),.sl none 3 (p.bW.map eP),.s p.eG,.sl none 3 (p.cV.map bA),.i .i64 p.lD,.sl none 3 (p.even.map bA),.s p.node,.i .i64 p.term] (aI p):=by
    rw [Na]
    exact yZ
   ((conv=>whnf);repeat ((first|refine cA (cE _) ?_|refine aH.df (show ¬((S0.map hM).length:Int)=0 by omega) ?_|refine ye (b0) ?_|refine ye (q1 _) ?_|refine ye (q2 _ _) ?_|refine ye (q3 _ _ _) ?_|refine ye (q4 _ _ _ _) ?_|refine ye (q5 _ _ _ _ _) ?_|refine ye (q6 _ _ _ _ _ _) ?_|refine zz ?_)<;>(conv=>whnf)))
   refine dF.mk (aC.less (args':=[.agg (aI p)]) (hr:=⟨.inr (.inl ⟨_,_,rfl,rfl,FC⟩),trivial⟩) (h0:=cP _ fun h' KZ=>?_))
   ((conv=>whnf);repeat ((first|refine cA (cQ h' _) ?_|refine ye (b0) ?_|refine ye (q1 _) ?_|refine ye (q2 _ _) ?_|refine ye (q3 _ _ _) ?_|refine ye (q4 _ _ _ _) ?_|refine ye (q5 _ _ _ _ _) ?_|refine ye (q6 _ _ _ _ _ _) ?_|refine ye (z6 _ _ _ _ _ _) ?_|refine zz ?_)<;>(conv=>whnf)))
   have FD:aA.aJ (fun _=>False) h h':=(aA.aJ.trans (b:=fun n=>n=h.next) (kA.mono fun _ _ e=>e.elim) (aA.aJ.trans (b:=fun n=>n=h.next) VK (KZ.mono fun _ _ e=>e.elim))).mono fun n hn e=>absurd hn (by omega)
   refine uN (rs:=AF.f53.results) (v:=.bY [.agg [.s p.name,.i .i64 p.uid,.i .i64 p.prio,.i .i64 p.fQ.a,.i .i64 p.fQ.b,.i .i64 p.fQ.c,.sl none 1 (p.aN.map fA),.sl none 2 (p.labels.map aY),.sl none 3 (p.lM.map bA),.sl none 3 (p.bW.map eP),.s p.eG,.sl none 3 (p.cV.map bA),.i .i64 p.lD,.sl none 3 (p.even.map bA),.s p.node,.i .i64 p.term],.b true]) ?_ (hK _ _ FC FD)
   exact uO rfl (z7 _ _ _ _ _ _ _) rfl rfl rfl
end
open Go
theorem FE {cs ds:List V} {b:Bool} (hc:Ah gV ⟨0,0⟩ gG cs ds) (E:Env) (x:Value) (h:Rel E (.bY [.agg cs,.b b]) x):Rel E (.bY [.agg ds,.b b]) x:=by
 cases h with
 |deep hd=>cases hd
 |bY _ xs hn hr=>
  refine .bY _ _ (by simpa using hn) fun j v x hj hx=>?_
  match j with
  |0=>
   simp at hj;subst hj
   exact EU (.inr (.inl ⟨_,_,rfl,rfl,hc⟩)) (hr 0 _ x rfl hx)
  |1=>
   simp at hj;subst hj
   exact hr 1 _ x rfl hx
  |j+2=>simp at hj
section
variable {P:Program} (hG:bP P AF.fns.get)
include hG
theorem rget_at (eN:dQ P 285) (p:aL) (hp:Ja p) (hm:Pure P 115 [.agg (aI p)] (·=.b true)) {h:aA} {K:V->aA->Prop}
 (hK:∀ h',aA.aJ (fun _=>False) h h'->K (.bY [.agg (aI p),.b true]) h'):aC P 53 [.sl none 1 ((bZ p).map hM)] h K:=by
 refine aC.more (rget0_at hG eN p hp hm (K:=fun v h'=>∃ cs,v=.bY [.agg cs,.b true]/\Ah gV ⟨0,0⟩ gG cs (aI p)/\K (.bY [.agg (aI p),.b true]) h') fun cs h' hc hk=>⟨cs,rfl,hc,hK h' hk⟩) ?_
 rintro v h' ⟨cs,rfl,hc,hk⟩
 exact ⟨_,fun E x hx=>FE hc E x hx,hk⟩
end
open Go
theorem uP:eH []:=⟨Nat.zero_le _,fun _ h=>by cases h⟩
theorem portsB_ok:∀ {l:List Int} {o:Option Int},nL o l=true->∀ n∈l,1<=n/\n<=65535
 |x::r,o,h,n,hn=>by
  rw [wZ] at h
  simp only [Bool.and_eq_true,decide_eq_true_eq] at h
  cases hn with
  |head=>exact h.1.1
  |tail _ hn=>exact portsB_ok h.2 n hn
theorem pairsB_ok:∀ {l:List cX} {o:Option aU},fO o l=true->∀ q∈l,eH q.key/\eH q.val
 |x::r,o,h,q,hq=>by
  rw [rW] at h
  simp only [Bool.and_eq_true] at h
  cases hq with
  |head=>exact ⟨nameB_ok h.1.1.1,nameB_ok h.1.1.2⟩
  |tail _ hq=>exact pairsB_ok h.2 q hq
theorem termB_ok {t:cM} (h:mO t=true):Ar t:=by
 unfold mO at h
 simp only [Bool.and_eq_true] at h
 obtain ⟨⟨h1,h2⟩,h3⟩:=h
 have hv:∀ s∈t.bF,eH s:=fun s hs=>nameB_ok (List.all_eq_true.1 h3 s hs)
 by_cases k:t.kind=1\/t.kind=2
 · rw [if_pos k] at h1
   simp only [Bool.and_eq_true,decide_eq_true_eq] at h1
   exact ⟨nameB_ok h2,by omega,by omega,hv⟩
 · rw [if_neg k] at h1
   simp only [Bool.and_eq_true,decide_eq_true_eq] at h1
   exact ⟨nameB_ok h2,by omega,by omega,hv⟩
theorem termsB_ok {l:List cM} (h:fY l=true):l.length<=6/\∀ t∈l,Ar t:=by
 unfold fY at h
 simp only [Bool.and_eq_true,decide_eq_true_eq] at h
 exact ⟨h.1,fun t ht=>termB_ok (List.all_eq_true.1 h.2 t ht)⟩
theorem tolB_ok {t:lC} (h:FA t=true):eH t.key/\eH t.val:=by
 unfold FA at h
 simp only [Bool.and_eq_true,Bool.or_eq_true,decide_eq_true_eq] at h
 refine ⟨?_,?_⟩
 · rcases h.1 with e|e
   · rw [e];exact uP
   · exact nameB_ok e
 · have h2:=h.2
   cases hA:t.any with
   |true=>rw [hA,if_pos rfl,decide_eq_true_eq] at h2;rw [h2];exact uP
   |false=>rw [hA,if_neg (by decide)] at h2;exact nameB_ok h2
theorem tolsB_ok {l:List lC} (h:xA l=true):l.length<=6/\∀ t∈l,eH t.key/\eH t.val:=by
 unfold xA at h
 simp only [Bool.and_eq_true,decide_eq_true_eq] at h
 exact ⟨h.1,fun t ht=>tolB_ok (List.all_eq_true.1 h.2 t ht)⟩
theorem FF {p:aL} (h:gY p=true) (ht:p.term<=9223372036854775807):Ja p:=by
 unfold gY at h
 simp only [Bool.and_eq_true,decide_eq_true_eq] at h
 obtain ⟨h1,h2,h3,h4,h5,h6,⟨h7,h7'⟩,⟨h8,h8'⟩,h9,GM,LI,Jx⟩:=h
 unfold Bl at LI
 simp only [Bool.and_eq_true,Bool.or_eq_true,decide_eq_true_eq] at LI
 obtain ⟨t1,t2,t3,t4,t5⟩:=LI
 unfold Hq at Jx
 simp only [Bool.and_eq_true,Bool.or_eq_true,decide_eq_true_eq] at Jx
 unfold Bk pN at h6
 simp only [Bool.and_eq_true,decide_eq_true_eq] at h6
 obtain ⟨s1,s2⟩:=termsB_ok h9
 obtain ⟨o1,o2⟩:=tolsB_ok GM
 obtain ⟨a1,a2⟩:=termsB_ok t3
 obtain ⟨e1,e2⟩:=termsB_ok t4
 have hp:=portsB_ok h7
 exact {
  small:=⟨by omega,by omega,by omega,by omega,by omega,by omega,fun t hm=>(s2 t hm).len,fun t hm=>(a2 t hm).len,fun t hm=>(e2 t hm).len⟩
  name:=nameB_ok h1
  uid:=by omega
  prio:=by omega
  fQ:=⟨by omega,by omega,by omega⟩
  aN:=fun n hn=>by have:=hp n hn;omega
  labels:=pairsB_ok h8
  lM:=s2
  bW:=o2
  eG:=by
   rcases t5 with e|⟨e,_⟩
   · exact nameB_ok e
   · rw [e];exact uP
  cV:=a2
  lD:=by omega
  even:=e2
  node:=by
   rcases Jx with ⟨e,_⟩|⟨e,_⟩
   · exact nameB_ok e
   · rw [e];exact uP
  term:=by rcases Jx with ⟨_,e⟩|⟨_,e⟩<;>omega }
section
variable {P:Program} (hG:bP P AF.fns.get)
include hG
theorem Hr (p:aL) (hp:pE p):Pure P 115 [.agg (aI p)] (·=.b (gY p)):=by
 unfold Pure
 exact mpod_at hG p hp (aG rfl rfl)
theorem VL (eN:dQ P 285) (p:aL) (hp:pE p) (hb:gY p=true) (ht:p.term<=9223372036854775807) {h:aA} {K:V->aA->Prop}
 (hK:∀ h',aA.aJ (fun _=>False) h h'->K (.sl none 1 ((bZ p).map hM)) h'):aC P 49 [.agg (aI p)] h K:=
 wput_at hG eN p (FF hb ht).small (by have:=Hr hG p hp;rw [hb] at this;exact this) hK
theorem Jb (eN:dQ P 285) (p:aL) (hp:pE p) (hb:gY p=true) (ht:p.term<=9223372036854775807) {h:aA} {K:V->aA->Prop}
 (hK:∀ h',aA.aJ (fun _=>False) h h'->K (.bY [.agg (aI p),.b true]) h'):aC P 53 [.sl none 1 ((bZ p).map hM)] h K:=
 rget_at hG eN p (FF hb ht) (by have:=Hr hG p hp;rw [hb] at this;exact this) hK
end
open Go
theorem Cs:∀ l:List aU,(l.map bE).flatten=l.map V.s
 |[]=>rfl
 |x::r=>by rw [List.map_cons,List.flatten_cons,Cs r];rfl
def nA (ks:List aU):List aU:=ks.mergeSort Go.leB
structure dG where
 key:aU
 rev:Int
 val:List Int
def lG (e:dG):List V:=[.s e.key,.i .i64 e.rev,.sl none 1 (e.val.map hM)]
def K1 (e:dG):V×V:=(.s e.key,.agg (lG e))
def eA:List dG->aU->Option dG
 |[],_=>none
 |x::r,k=>if k=x.key then some x else eA r k
def sK:List dG->dG->List dG
 |[],e=>[e]
 |x::r,e=>if e.key=x.key then e::r else x::sK r e
def Di:List dG->aU->List dG
 |[],_=>[]
 |x::r,k=>if k=x.key then r else x::Di r k
theorem DO (x y:aU):rG (.s x) (.s y)=decide (x=y):=by
 show (x==y)=_
 by_cases h:x=y
 · subst h;simp
 · rw [decide_eq_false h];simp [h]
theorem Bn (k:aU):∀ D:List dG,mX (D.map K1) (.s k)=(eA D k).map fun e=>.agg (lG e)
 |[]=>rfl
 |x::r=>by
  simp only [List.map_cons,K1,mX,eA,DO]
  by_cases h:k=x.key
  · simp [h]
  · simp only [h,decide_false,Bool.false_eq_true,if_false];exact Bn k r
theorem Ow (e:dG):∀ D:List dG,vL (D.map K1) (.s e.key) (.agg (lG e))=(sK D e).map K1
 |[]=>rfl
 |x::r=>by
  simp only [List.map_cons,K1,vL,sK,DO]
  by_cases h:e.key=x.key
  · simp [h,K1]
  · simp only [h,decide_false,Bool.false_eq_true,if_false,List.map_cons,K1]
    exact congrArg _ (Ow e r)
theorem Ox (k:aU):∀ D:List dG,Gc (D.map K1) (.s k)=(Di D k).map K1
 |[]=>rfl
 |x::r=>by
  simp only [List.map_cons,K1,Gc,Di,DO]
  by_cases h:k=x.key
  · simp [h]
  · simp only [h,decide_false,Bool.false_eq_true,if_false,List.map_cons,K1]
    exact congrArg _ (Ox k r)
theorem K3 {k:aU} {e:dG}:∀ {D:List dG},eA D k=some e->e.key=k
 |x::r,h=>by
  unfold eA at h
  split at h
  · cases h;rename_i hk;exact hk.symm
  · exact K3 h
theorem K4 {k:aU} {e:dG}:∀ {D:List dG},eA D k=some e->e∈D
 |x::r,h=>by
  unfold eA at h
  split at h
  · cases h;exact .head _
  · exact .tail _ (K4 h)
theorem kH {k:aU}:∀ {D:List dG},eA D k=none↔k∉D.map (·.key)
 |[]=>by simp [eA]
 |x::r=>by
  unfold eA
  by_cases h:k=x.key
  · simp [h]
  · simp only [h,if_false,List.map_cons,List.mem_cons,false_or]
    exact kH
theorem CW (k:aU):∀ (A B:List dG),eA (A++B) k=(eA A k).or (eA B k)
 |[],B=>by simp [eA]
 |x::r,B=>by
  simp only [List.cons_append,eA]
  split
  · rfl
  · exact CW k r B
theorem rX (k:aU) (q:aU->Bool):∀ D:List dG,eA (D.filter fun x=>q x.key) k=if q k then eA D k else none
 |[]=>by simp [eA]
 |x::r=>by
  have ih:=rX k q r
  by_cases h:q x.key=true
  · rw [List.filter_cons_of_pos (by exact h)]
    simp only [eA,ih]
    by_cases hk:k=x.key
    · subst hk;simp [h]
    · simp [hk]
  · rw [List.filter_cons_of_neg (by exact h),ih]
    simp only [eA]
    by_cases hk:k=x.key
    · subst hk;simp [h]
    · simp [hk]
theorem Bo (e:dG) (k:aU):∀ D:List dG,eA (sK D e) k=if k=e.key then some e else eA D k
 |[]=>by simp [sK,eA]
 |x::r=>by
  unfold sK
  by_cases h:e.key=x.key
  · simp only [h,if_true,eA]
    split<;>rfl
  · simp only [h,if_false,eA,Bo e k r]
    by_cases hk:k=x.key
    · subst hk;simp [Ne.symm h]
    · simp [hk]
theorem FG (k0 k:aU):∀ {D:List dG},(D.map (·.key)).Nodup->eA (Di D k0) k=if k=k0 then none else eA D k
 |[],_=>by simp [Di,eA]
 |x::r,hn=>by
  rw [List.map_cons,List.nodup_cons] at hn
  unfold Di
  by_cases h:k0=x.key
  · simp only [h,if_true,eA]
    by_cases hk:k=x.key
    · subst hk;simp only [if_true];exact kH.2 hn.1
    · simp [hk]
  · simp only [h,if_false,eA,FG k0 k hn.2]
    by_cases hk:k=x.key
    · subst hk;simp [Ne.symm h]
    · simp [hk]
theorem P2 (e:dG):∀ (D:List dG) (k:aU),k∈(sK D e).map (·.key)↔k=e.key\/k∈D.map (·.key)
 |D,k=>by
  have h:=Bo e k D
  by_cases hk:k=e.key
  · rw [if_pos hk] at h
    refine ⟨fun _=>.inl hk,fun _=>?_⟩
    refine Classical.byContradiction fun hc=>?_
    rw [kH.2 hc] at h;cases h
  · rw [if_neg hk] at h
    constructor
    · intro h1
      refine .inr (Classical.byContradiction fun hc=>?_)
      rw [kH.2 hc] at h
      exact kH.1 h h1
    · rintro (h1|h1)
      · exact absurd h1 hk
      · refine Classical.byContradiction fun hc=>?_
        rw [kH.2 hc] at h
        exact kH.1 h.symm h1
theorem As (e:dG):∀ {D:List dG},(D.map (·.key)).Nodup->((sK D e).map (·.key)).Nodup
 |[],_=>by simp [sK]
 |x::r,hn=>by
  rw [List.map_cons,List.nodup_cons] at hn
  unfold sK
  by_cases h:e.key=x.key
  · rw [if_pos h,List.map_cons,List.nodup_cons,h];exact hn
  · rw [if_neg h,List.map_cons,List.nodup_cons]
    refine ⟨fun hc=>?_,As e hn.2⟩
    rcases (P2 e r x.key).1 hc with h1|h1
    · exact h h1.symm
    · exact hn.1 h1
theorem Bp (k:aU):∀ D:List dG,(Di D k).Sublist D
 |[]=>.slnil
 |x::r=>by
  unfold Di
  split
  · exact .cons _ (.refl _)
  · exact .cons_cons _ (Bp k r)
theorem K5 {e x:dG}:∀ {D:List dG},x∈sK D e->x=e\/x∈D
 |[],h=>by simp [sK] at h;exact .inl h
 |y::r,h=>by
  unfold sK at h
  split at h
  · cases h with
    |head=>exact .inl rfl
    |tail _ h=>exact .inr (.tail _ h)
  · cases h with
    |head=>exact .inr (.head _)
    |tail _ h=>
     rcases K5 h with h1|h1
     · exact .inl h1
     · exact .inr (.tail _ h1)
def Bq (e:dG):Bool->List dG->List dG
 |done,[]=>if done then [] else [e]
 |done,x::r=>if x.key=e.key then Bq e done r else if (!done&&Op.bytesLess e.key x.key)=true then e::x::Bq e true r else x::Bq e done r
def sL (L:List dG):Prop:=L.Pairwise fun a b=>bR a.key b.key
theorem tJ (e:dG):∀ L:List dG,Bq e true L=L.filter fun x=>x.key !=e.key
 |[]=>rfl
 |x::r=>by
  unfold Bq
  by_cases h:x.key=e.key
  · rw [if_pos h,tJ e r,List.filter_cons_of_neg (by simp [h])]
  · rw [if_neg h,if_neg (by simp),tJ e r,List.filter_cons_of_pos (by simpa using h)]
theorem xC (e:dG):∀ {L:List dG},sL L->Bq e false L=(L.filter fun x=>Op.bytesLess x.key e.key)++e::L.filter fun x=>Op.bytesLess e.key x.key
 |[],_=>rfl
 |x::r,hs=>by
  unfold sL at hs
  rw [List.pairwise_cons] at hs
  unfold Bq
  by_cases h:x.key=e.key
  · rw [if_pos h,xC e hs.2,List.filter_cons_of_neg (by rw [h,iS];simp),List.filter_cons_of_neg (by rw [h,iS];simp)]
  · rw [if_neg h]
    by_cases hl:Op.bytesLess e.key x.key=true
    · rw [if_pos (by simpa using hl),tJ]
      have h1:∀ y∈r,Op.bytesLess e.key y.key=true:=fun y hy=>jY hl (hs.1 y hy)
      have h2:∀ y∈r,Op.bytesLess y.key e.key=false:=fun y hy=>qS (h1 y hy)
      have e1:(r.filter fun x=>x.key !=e.key)=r:=List.filter_eq_self.2 fun y hy=>by
       simp only [bne_iff_ne,ne_eq]
       intro hc
       have:=h1 y hy
       rw [hc,iS] at this
       cases this
      have e2:(r.filter fun x=>Op.bytesLess x.key e.key)=[]:=List.filter_eq_nil_iff.2 fun y hy=>by rw [h2 y hy];simp
      have e3:(r.filter fun x=>Op.bytesLess e.key x.key)=r:=List.filter_eq_self.2 h1
      rw [List.filter_cons_of_neg (by rw [qS hl];simp),List.filter_cons_of_pos (by exact hl),e1,e2,e3]
      rfl
    · rw [if_neg (by simpa using hl),xC e hs.2]
      have hf:Op.bytesLess e.key x.key=false:=by simpa using hl
      have h3:=oS hf (Ne.symm h)
      rw [List.filter_cons_of_pos (by exact h3),List.filter_cons_of_neg (by rw [hf];simp)]
      rfl
theorem Ht {e:dG} {done:Bool} {L:List dG} (h:sL L):sL (Bq e done L):=by
 cases done
 · rw [xC e h]
   unfold sL
   refine List.pairwise_append.2 ⟨List.Pairwise.sublist List.filter_sublist h,List.pairwise_cons.2 ⟨fun y hy=>?_,List.Pairwise.sublist List.filter_sublist h⟩,fun x hx y hy=>?_⟩
   · exact (List.mem_filter.1 hy).2
   · have h1:bR x.key e.key:=(List.mem_filter.1 hx).2
     rcases List.mem_cons.1 hy with rfl|hy
     · exact h1
     · exact jY h1 (List.mem_filter.1 hy).2
 · rw [tJ]
   exact List.Pairwise.sublist List.filter_sublist h
theorem TA {e:dG} {L:List dG} (h:sL L) (k:aU):eA (Bq e false L) k=if k=e.key then some e else eA L k:=by
 rw [xC e h,CW,rX k (fun z=>Op.bytesLess z e.key)]
 simp only [eA]
 rw [rX k (fun z=>Op.bytesLess e.key z)]
 by_cases hk:k=e.key
 · subst hk
   rw [iS];simp
 · simp only [hk,if_false]
   cases h1:Op.bytesLess k e.key with
   |true=>
    rw [qS h1]
    simp only [if_true,Bool.false_eq_true,if_false]
    cases eA L k<;>rfl
   |false=>
    rw [oS h1 hk]
    simp
theorem P3 {e:dG} {L:List dG} (k:aU):eA (Bq e true L) k=if k=e.key then none else eA L k:=by
 rw [tJ,rX k (fun z=>z !=e.key)]
 by_cases hk:k=e.key
 · simp [hk]
 · simp [hk]
structure gB (D L:List dG):Prop where
 P4:∀ k,eA D k=eA L k
 nd:(D.map (·.key)).Nodup
 jK:sL L
theorem gB.nil:gB [] []:=⟨fun _=>rfl,.nil,.nil⟩
theorem gB.put {D L:List dG} (h:gB D L) (e:dG):gB (sK D e) (Bq e false L):=
 ⟨fun k=>by rw [Bo,TA h.jK,h.P4],As e h.nd,Ht h.jK⟩
theorem gB.del {D L:List dG} (h:gB D L) (e:dG):gB (Di D e.key) (Bq e true L):=
 ⟨fun k=>by rw [FG _ _ h.nd,P3,h.P4],h.nd.sublist ((Bp _ _).map _),Ht h.jK⟩
theorem sL.nodup {L:List dG} (h:sL L):(L.map (·.key)).Nodup:=
 List.Pairwise.map _ (fun a b PA e=>by
  have:bR a.key b.key:=PA
  rw [e] at this
  unfold bR at this
  rw [iS] at this
  cases this) h
theorem sL.get:∀ {L:List dG},sL L->∀ e∈L,eA L e.key=some e
 |x::r,h,e,he=>by
  unfold sL at h
  rw [List.pairwise_cons] at h
  unfold eA
  rcases List.mem_cons.1 he with rfl|he
  · simp
  · rw [if_neg,sL.get h.2 e he]
    intro hc
    have:bR x.key e.key:=h.1 e he
    rw [hc] at this
    unfold bR at this
    rw [iS] at this
    cases this
theorem gB.get {D L:List dG} (h:gB D L) {e:dG} (he:e∈L):eA D e.key=some e:=by rw [h.P4];exact h.jK.get e he
theorem gB.keys {D L:List dG} (h:gB D L):nA (D.map (·.key))=L.map (·.key):=by
 have hp:(D.map (·.key)).Perm (L.map (·.key)):=(List.perm_ext_iff_of_nodup h.nd h.jK.nodup).2 fun k=>by
  have h1:=kH (k:=k) (D:=D)
  have h2:=kH (k:=k) (D:=L)
  rw [h.P4 k] at h1
  have h3:=h1.symm.trans h2
  exact Decidable.not_iff_not.1 h3
 rw [nA,Go.mergeSort_of_perm hp]
 refine List.mergeSort_of_pairwise (List.Pairwise.map _ (fun a b PA=>?_) h.jK)
 have h1:bR a.key b.key:=PA
 unfold bR at h1
 rw [Go.Proofs.bytesLess_eq,decide_eq_true_eq] at h1
 simp only [Go.leB,decide_eq_true_eq]
 exact List.le_of_lt h1
theorem gB.len {D L:List dG} (h:gB D L):D.length=L.length:=by
 have hp:=congrArg List.length h.keys
 simpa [nA] using hp
open Go
structure kJ where
 e:dG
 gone:Bool
def lU (x:kJ):List V:=[.i .i64 x.e.rev,.s x.e.key,.sl none 1 (x.e.val.map hM),.b x.gone]
def adI:List V:=[.s [],.i .i64 0,.aS]
structure TB (e:dG):Prop where
 val:e.val.length*1<=140737488355328
 key:e.key.length<=9223372036854775807
def kM (D:List dG) (x:kJ):List dG:=if x.gone then Di D x.e.key else sK D x.e
def TC (L:List dG) (x:kJ):List dG:=Bq x.e x.gone L
theorem gB.step {D L:List dG} (h:gB D L) (x:kJ):gB (kM D x) (TC L x):=by
 unfold kM TC
 cases x.gone
 · exact h.put x.e
 · exact h.del x.e
open Go
structure Br (P:Program):Prop where
 keys:∀ (h:aA) (k mk:Nat) (c:List V) (es:List (V×V)) (ks:List (List UInt8)),h.get k=some (.cs c)->c[0]? =some (.m (.g mk))->h.get mk=some (.mp none es)->es.map Prod.fst=ks.map V.s->ks.Nodup->
  (∀ x∈ks,x.length<=9223372036854775807)->ks.length<=1000000->∀ K:V->aA->Prop,K (.sl none 1 ((nA ks).map bE)) h->aC P 54 [.fn 139 [] [.p (.g k) 0]] h K
 none:∀ (h:aA) (k:Nat) (c:List V),h.get k=some (.cs c)->c[0]? =some .gS->∀ K:V->aA->Prop,K .aS h->aC P 54 [.fn 139 [] [.p (.g k) 0]] h K
def YX (lv:V) (L:List dG):Prop:=(lv=.aS/\L=[])\/lv=.sl none 3 (L.map lG)
open Go
def bO (s:aU):aU:=[112,47]++s
section
variable {P:Program} (hG:bP P AF.fns.get)
include hG
theorem keyp_at {h:aA} (s:aU) (hl:s.length<=9223372036854775807) (hs:bI s=true) {K:V->aA->Prop} (hK:K (.s (bO s)) h):aC P 52 [.i .i64 1,.s s] h K:=by
 have hk:=fun K hK=>name_at (K:=K) hG (h:=h) s hl hK
 rw [hs] at hk
 have hlen:s.length<=12:=(nameB_ok hs).1
 refine aQ (hG _ AF.f52 rfl) rfl ?_
 (refine iG @hk (decide_eq_true (show ((([112,47]:aU).length+s.length:Nat):Int)<=9223372036854775807 by simp;omega)) ?_)
 exact hK
theorem VM {h:aA} (s:aU) (hl:s.length<=9223372036854775807) (hs:bI s=false) {K:V->aA->Prop} (hK:K (.s []) h):aC P 52 [.i .i64 1,.s s] h K:=by
 have hk:=fun K hK=>name_at (K:=K) hG (h:=h) s hl hK
 rw [hs] at hk
 refine aQ (hG _ AF.f52 rfl) rfl ?_
 (refine cD @hk ?_)
 exact hK
end
open Go
structure K6 (n:bK):Prop where
 name:eH n.name
 cap:I6 n.cap
 labels:n.labels.length<=100
 FB:∀ q∈n.labels,eH q.key/\eH q.val
 cR:n.cR.length<=100
 M7:∀ q∈n.cR,eH q.key/\eH q.val
theorem K7 (n:bK):0<(dO n).length:=by unfold dO;simp only [List.length_append,aV];omega
section
variable {P:Program} (hG:bP P AF.fns.get)
include hG
theorem Nb (eN:dQ P 285) {h:aA} {a:Nat} {m:Bool} {l:List cX} {R:List Int} (hr:hU h a m (dV l++R)) (hl:l.length<=100) (dW:∀ p∈l,eH p.key/\eH p.val) (hR:R.length<=1000000) {K:V->aA->Prop}
 (hK:∀ h' m',hU h' a m' R->aA.aJ (fun n=>n=a) h h'->K (YO 2 aY l) h'):aC P 140 [.p (.g a) 0,.fn 141 [] []] h K:=by
 have xY:∀ p:cX,(bX p).length=16:=fun p=>by simp [bX,bN]
 unfold dV at hr
 rw [List.append_assoc] at hr
 have fE:=qX bX (fun p=>by rw [xY];omega) l
 have hle:=eV bX 16 l fun p _=>Nat.le_of_eq (xY p)
 have h1:=fun K hK=>rcount_at (K:=K) hG hr (by omega) (by rw [List.length_append];omega) (by rw [List.length_append];omega) hK
 refine aQ (hG _ AF.f140 rfl) rfl ?_
 (refine cD @h1 ?_)
 intro h2 r2 k2
 (refine zr ?_)
 refine b8.by (fun q fr st=>∃ (i:Nat) (hh lc:aA) (m':Bool) (bv:V),i<=l.length/\q=l.length - i/\hU hh a m' ((l.drop i).flatMap bX++R)/\aA.aJ (fun n=>n=a) h hh/\YP lc 2 bv ((l.take i).map aY)/\
  Fr.le [(10,.i .i64 i),(9,.i .i64 l.length),(5,bv),(1,.fn 141 [] []),(0,.p (.g a) 0)] fr/\st=⟨hh,lc⟩)
  l.length ⟨0,h2,_,m,.aS,Nat.zero_le _,rfl,r2,k2,.inl ⟨rfl,rfl⟩,cT,rfl⟩ ?_
 rintro q fr st ⟨i,hh,lc,m',bv,hi,rfl,lW,hk,Tq,dE,rfl⟩
 refine ⟨_,dE,fun R0 LJ=>?_⟩
 have Zx:=eU bX 16 l i fun p _=>Nat.le_of_eq (xY p)
 have BJ:((l.take i).map aY).length<=100:=by simp;omega
 by_cases cY:i<l.length
 · have he:=List.getElem?_eq_getElem cY
   have yK:=dW _ (List.getElem_mem cY)
   generalize l[i]=x at he yK
   have hd:=lO bX he
   have vD:=eU bX 16 l (i+1) fun p _=>Nat.le_of_eq (xY p)
   rw [hd] at lW
   unfold bX at lW
   rw [List.append_assoc,List.append_assoc] at lW
   have jM:(l.take (i+1)).map aY=(l.take i).map aY++[aY x]:=by rw [List.take_add_one,he];simp
   have PN:=fun K hK=>rname_at (K:=K) hG eN lW yK.1 (by rw [List.length_append,List.length_append,bN];unfold bX at vD;omega) hK
   rcases Tq with ⟨uH,rfl⟩|⟨t,rfl,Jy,yU,dJ⟩
   · (refine iG (show (i:Int)<(l.length:Nat) by omega) @PN ?_)
     intro h3 r3 k3
     have Hf:=fun K hK=>rname_at (K:=K) hG eN r3 yK.2 (by rw [List.length_append];unfold bX at vD;omega) hK
     (refine cD @Hf ?_)
     intro h4 r4 k4
     (refine cD (aQ (hG _ AF.f141 rfl) rfl) ?_)
     exact LJ (l.length - (i+1)) _ _ (by omega) ⟨i+1,h4,_,true,_,by omega,rfl,r4,(hk.trans k3).trans k4,.inr ⟨lc.next+1,by first|(rw [jM,uH];done)|(rw [jM,uH];rfl),Nat.lt_succ_self _,aA.aB _ _,by rw [jM];simp⟩,cT,rfl⟩
   · have f0:(lc.push .spare).get t=some .spare:=aA.gp (by omega) yU
     (refine iG (show (i:Int)<(l.length:Nat) by omega) @PN ?_)
     intro h3 r3 k3
     have Hf:=fun K hK=>rname_at (K:=K) hG eN r3 yK.2 (by rw [List.length_append];unfold bX at vD;omega) hK
     (refine cD @Hf ?_)
     intro h4 r4 k4
     ((conv=>whnf);repeat ((first|refine cA (aQ (hG _ AF.f141 rfl) rfl) ?_|refine aR.gA (by omega) (by omega) ?_|refine aM.mk (by simp only [bT];exact decide_eq_true (by simp at BJ ⊢;omega)) ?_|refine ye (f0) ?_|refine zz ?_)<;>(conv=>whnf)))
     exact LJ (l.length - (i+1)) _ _ (by omega) ⟨i+1,h4,_,true,_,by omega,rfl,r4,(hk.trans k3).trans k4,.inr ⟨lc.next+1,by first|(rw [jM];done)|(rw [jM];rfl),Nat.lt_succ_self _,aA.aB _ _,by rw [jM];simp⟩,cT,rfl⟩
 · obtain rfl:i=l.length:=by omega
   rw [List.drop_length] at lW
   rw [List.take_length] at Tq
   have W4:=hK hh m' lW hk
   rcases Tq with ⟨uH,rfl⟩|⟨t,rfl,Jy,yU,dJ⟩
   · have u9:l=[]:=by simpa using uH
     subst u9
     (refine cD (show ¬(((([]:List cX)).length:Nat):Int)<(([]:List cX).length:Nat) by omega) ?_)
     exact W4
   · cases l with
     |nil=>exact absurd rfl dJ
     |cons x r=>
      (refine cD (show ¬(((x::r).length:Nat):Int)<((x::r).length:Nat) by omega) ?_)
      exact W4
theorem K8 (eN:dQ P 285) {h:aA} {a:Nat} {m:Bool} {l:List cX} {R:List Int} (hr:hU h a m (dV l++R)) (hl:l.length<=100) (dW:∀ p∈l,eH p.key/\eH p.val) (hR:R.length<=1000000) {K:V->aA->Prop}
 (hK:∀ h' m',hU h' a m' R->aA.aJ (fun n=>n=a) h h'->K (.sl none 2 (l.map aY)) h'):aC P 140 [.p (.g a) 0,.fn 141 [] []] h K:=by
 refine aC.more (Nb hG eN hr hl dW hR (K:=fun v h'=>v=YO 2 aY l/\K (.sl none 2 (l.map aY)) h') fun h' m' q1 q2=>⟨rfl,hK h' m' q1 q2⟩) ?_
 rintro v h' ⟨rfl,hk⟩
 refine ⟨_,fun E x hx=>?_,hk⟩
 cases l with
 |nil=>exact I9 E x hx
 |cons _ _=>exact hx
theorem rgetn_at (eN:dQ P 285) (n:bK) (hp:K6 n) (hm:Pure P 108 [.agg (aK n)] (·=.b true)) {h:aA} {K:V->aA->Prop}
 (hK:∀ h',aA.aJ (fun _=>False) h h'->K (.bY [.agg (aK n),.b true]) h'):aC P 58 [.sl none 1 ((dO n).map hM)] h K:=by
 obtain ⟨S5,e5⟩:∃ S:List Int,S=[]:=⟨_,rfl⟩
 have l5:S5.length<=0:=by rw [e5];exact Nat.le_refl _
 obtain ⟨S4,e4⟩:∃ S:List Int,S=dV n.cR++S5:=⟨_,rfl⟩
 have l4:S4.length<=1601:=by rw [e4,List.length_append];have:=kG hp.cR;omega
 obtain ⟨S3,e3⟩:∃ S:List Int,S=dV n.labels++S4:=⟨_,rfl⟩
 have l3:S3.length<=3202:=by rw [e3,List.length_append];have:=kG hp.labels;omega
 obtain ⟨S2,e2⟩:∃ S:List Int,S=pC n.cap++S3:=⟨_,rfl⟩
 have l2:S2.length<=3214:=by rw [e2,List.length_append];rw [nK];omega
 obtain ⟨S1,e1⟩:∃ S:List Int,S=bV n.name++S2:=⟨_,rfl⟩
 have l1:S1.length<=3222:=by rw [e1,List.length_append];rw [bN];omega
 obtain ⟨S0,e0⟩:∃ S:List Int,S=dI 2 1++S1:=⟨_,rfl⟩
 have l0:S0.length<=3223:=by rw [e0,List.length_append];rw [aV];omega
 have hS0:dO n=S0:=by
  rw [e0,e1,e2,e3,e4,e5]
  unfold dO
  simp only [List.append_assoc,List.append_nil]
 have fU:=K7 n
 rw [hS0] at fU ⊢
 have yR:=fun K hK=>rnew_at (K:=K) hG (h:=h) S0 (by omega) hK
 refine aQ (hG _ AF.f58 rfl) rfl ?_
 (refine cD @yR ?_)
 intro hA rA kA
 rw [e0] at rA
 have c0:=fun K hK=>rnumI_at (K:=K) hG rA (by omega) (by omega) (by decide) (by omega) (by omega) hK
 (refine cD @c0 ?_)
 intro h0 r0 k0
 rw [e1] at r0
 have c1:=fun K hK=>rname_at (K:=K) hG eN r0 hp.name (by omega) hK
 (refine cD @c1 ?_)
 intro h1 r1 k1
 rw [e2] at r1
 have c2:=fun K hK=>rres_at (K:=K) hG r1 hp.cap (by omega) hK
 (refine cD @c2 ?_)
 intro h2 r2 k2
 rw [e3] at r2
 have c3:=fun K hK=>rpairs2_at (K:=K) hG eN r2 hp.labels hp.FB (by omega) hK
 (refine cD @c3 ?_)
 intro h3 m3 r3 k3
 rw [e4] at r3
 have c4:=fun K hK=>K8 (K:=K) hG eN r3 hp.cR hp.M7 (by omega) hK
 (refine cD @c4 ?_)
 intro h4 m4 r4 k4
 rw [e5] at r4
 have kk:=(((k0.trans k1).trans k2).trans k3).trans k4
 have hSl:(S0.map hM).length=S0.length:=List.length_map _
 have cE:=fun K hK=>rend_at (K:=K) hG r4 hK
 have cP:=fun K hK=>wputn_at (K:=K) hG eN n hp.labels hp.cR hm (h:=h4) hK
 have cQ:=fun (h':aA) K hK=>beq_at (K:=K) (h:=h') hG S0 hK
 rw [hS0] at cP
 (refine qR @cE (show ¬((S0.map hM).length:Int)=0 by omega) @cP ?_)
 intro h' KZ
 ((conv=>whnf);repeat ((first|refine cA (cQ h' _) ?_|refine zz ?_)<;>(conv=>whnf)))
 have FD:aA.aJ (fun _=>False) h h':=(aA.aJ.trans (b:=fun n=>n=h.next) (kA.mono fun _ _ e=>e.elim) (aA.aJ.trans (b:=fun n=>n=h.next) kk (KZ.mono fun _ _ e=>e.elim))).mono fun n hn e=>absurd hn (by omega)
 exact hK _ FD
end
end Go.Eng
