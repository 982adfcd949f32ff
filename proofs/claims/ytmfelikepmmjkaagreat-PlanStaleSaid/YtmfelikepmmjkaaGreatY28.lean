/-
The reader: terms.
-/
import Derived.Test.YtmfelikepmmjkaaGreatY27
import Derived.Test.YtmfelikepmmjkaaGreatY26
set_option linter.unusedVariables false
set_option linter.unusedSimpArgs false
set_option maxHeartbeats 32000000
set_option maxRecDepth 20000
namespace Go.Eng
open Go
def jV (t:cM):List V:=[.s t.key,.i .i64 t.kind,ZW 1 bG t.bF]
theorem sT (t:cM):dR [jV t]=some [jV t]:=by
 unfold jV
 cases t.bF<;>rfl
structure yT (t:cM):Prop where
 key:fR t.key
 kind:0<=t.kind/\t.kind<256
 len:t.bF.length<=100
 bF:∀ s∈t.bF,fR s
theorem LH (t:cM):1<=(dN t).length:=by
 unfold dN
 rw [List.length_append,List.length_append,aR]
 omega
def ZZ (lc:aA) (kt:Nat) (bv:V) (rows:List (List V)):Prop:=(rows=[]/\bv=.aV)\/∃ t,bv=.sl (some (.l t)) 1 rows/\kt<t/\t<lc.next/\lc.get t=some .spare/\rows≠[]
section
variable {P:Program} (hG:bN P AF.fns.get)
include hG
theorem rterms_at (fD:eD P 285) {h:aA} {a:Nat} {m:Bool} {l:List cM} {R:List Int} (hr:iI h a m (eQ l++R)) (hl:l.length<=100) (dZ:∀ t∈l,yT t) (hR:R.length<=1000000) {K:V->aA->Prop}
 (hK:∀ h' m',iI h' a m' R->aA.aI (fun n=>n=a) h h'->K (ZW 3 jV l) h'):aB P 133 [.p (.g a) 0] h K:=by
 have Ct:∀ t∈l,(dN t).length<=810:=fun t ht=>uZ (dZ t ht).len
 unfold eQ at hr
 rw [List.append_assoc] at hr
 have fC:=rN dN LH l
 have hle:=eS dN 810 l Ct
 have h1:=fun K hK=>rcount_at (K:=K) hG hr (by omega) (by rw [List.length_append];omega) (by rw [List.length_append];omega) hK
 refine aN (hG _ AF.f133 rfl) rfl ?_
 (refine cJ @h1 ?_)
 intro h2 r2 k2
 (refine zr ?_)
 refine bV.by (fun q fr st=>∃ (i:Nat) (hh lc:aA) (m':Bool) (bv:V),i<=l.length/\q=l.length - i/\iI hh a m' ((l.drop i).flatMap dN++R)/\aA.aI (fun n=>n=a) h hh/\ZX lc 3 bv ((l.take i).map jV)/\
  Fr.le [(7,.i .i64 i),(6,.i .i64 l.length),(3,bv),(0,.p (.g a) 0)] fr/\st=⟨hh,lc⟩)
  l.length ⟨0,h2,_,m,.aV,Nat.zero_le _,rfl,r2,k2,.inl ⟨rfl,rfl⟩,dK,rfl⟩ ?_
 rintro q fr st ⟨i,hh,lc,m',bv,hi,rfl,mQ,hk,WQ,dO,rfl⟩
 refine ⟨_,dO,fun R0 Oo=>?_⟩
 have B0:((l.take i).map jV).length<=100:=by simp;omega
 by_cases eB:i<l.length
 · have he:=List.getElem?_eq_getElem eB
   have As:=dZ _ (List.getElem_mem eB)
   generalize l[i]=x at he As
   have hd:=mI dN he
   have Aj:=fT dN 810 l (i+1) Ct
   rw [hd] at mQ
   unfold dN wF at mQ
   simp only [List.append_assoc] at mQ
   have kQ:(l.take (i+1)).map jV=(l.take i).map jV++[jV x]:=by rw [List.take_add_one,he];simp
   have H3:=eS bQ 8 x.bF fun s _=>Nat.le_of_eq (bM s)
   have hvg:=rN bQ (fun s=>by rw [bM];omega) x.bF
   have KE:=As.len
   obtain ⟨R1,CO⟩:∃ R1,R1=(l.drop (i+1)).flatMap dN++R:=⟨_,rfl⟩
   have alW:R1.length<=1081000:=by rw [CO,List.length_append];omega
   change iI hh a m' (bQ x.key++(dB x.kind 1++(dB x.bF.length 1++(x.bF.flatMap bQ++((l.drop (i+1)).flatMap dN++R))))) at mQ
   rw [<-CO] at mQ
   have Sv:=fun K hK=>rname_at (K:=K) hG fD mQ As.key (by simp only [List.length_append,aR];omega) hK
   have a1:∀ o,(lc.push o).get lc.next=some o:=fun o=>aA.aC _ _
   have a2:∀ o o2,((lc.push o).set lc.next o2).get lc.next=some o2:=fun o o2=>aA.aD (a1 o)
   rcases WQ with ⟨wB,rfl⟩|⟨t,rfl,MT,AM,dM⟩
   all_goals
    (refine iU (show (i:Int)<(l.length:Nat) by omega) @Sv ?_)
    intro h3 r3 k3
    have MK:=fun K hK=>rnumI_at (K:=K) hG r3 (by omega) As.kind.1 (by show x.kind<(256:Int);exact As.kind.2) (by have:=As.kind.2;omega) (by simp only [List.length_append,aR];omega) hK
    (refine cJ @MK ?_)
    intro h4 r4 k4
    have hn3:=fun K hK=>rcount_at (K:=K) hG r4 (by omega) (by simp only [List.length_append];omega) (by simp only [List.length_append];omega) hK
    (refine pU @hn3 @a1 @a2 ?_)
    intro h5 r5 k5
    (refine iU @a1 @a2 ?_)
   · refine bV.by (fun q fr st=>∃ (j:Nat) (hj lj:aA) (m2:Bool) (TT:V),j<=x.bF.length/\q=x.bF.length - j/\iI hj a m2 ((x.bF.drop j).flatMap bQ++R1)/\aA.aI (fun n=>n=a) h hj/\
      lc.next<lj.next/\lj.get lc.next=some (.cs [.s x.key,.i .i64 x.kind,TT])/\ZZ lj lc.next TT ((x.bF.take j).map bG)/\
      Fr.le [(16,.i .i64 j),(15,.i .i64 x.bF.length),(4,.p (.l lc.next) 0),(7,.i .i64 i),(6,.i .i64 l.length),(3,.aV),(0,.p (.g a) 0)] fr/\st=⟨hj,lj⟩)
      x.bF.length ⟨0,h5,_,_,.aV,Nat.zero_le _,rfl,r5,((hk.trans k3).trans k4).trans k5,Nat.lt_succ_self _,a2 _ _,.inl ⟨rfl,rfl⟩,dK,rfl⟩ ?_
     rintro q fr st ⟨j,hj,lj,m2,TT,GS,rfl,MU,O2,TU,b0,EX,Ep,rfl⟩
     refine ⟨_,Ep,fun R2 Rm=>?_⟩
     by_cases Fv:j<x.bF.length
     · have hv:=List.getElem?_eq_getElem Fv
       have X0:=As.bF _ (List.getElem_mem Fv)
       generalize x.bF[j]=s at hv X0
       have Fe:=mI bQ hv
       have WR:=fT bQ 8 x.bF (j+1) fun s _=>Nat.le_of_eq (bM s)
       rw [Fe,List.append_assoc] at MU
       have Bk:(x.bF.take (j+1)).map bG=(x.bF.take j).map bG++[bG s]:=by rw [List.take_add_one,hv];simp
       have WS:((x.bF.take j).map bG).length<=100:=by simp;omega
       have Z0:=fun K hK=>rname_at (K:=K) hG fD MU X0 (by rw [List.length_append];omega) hK
       have p1:(lj.push .spare).get lc.next=some (.cs [.s x.key,.i .i64 x.kind,TT]):=aA.gp (by omega) b0
       rcases EX with ⟨HO,rfl⟩|⟨t2,rfl,WT,WU,Rw,LI⟩
       · have p2:((lj.push .spare).push .spare).get lc.next=some (.cs [.s x.key,.i .i64 x.kind,.aV]):=aA.gp (by show lc.next≠lj.next+1;omega) p1
         (refine pU (show (j:Int)<(x.bF.length:Nat) by omega) @Z0 @b0 ?_)
         intro h6 r6 k6
         (refine pU @b0 @p1 @p2 ?_)
         exact Rm (x.bF.length - (j+1)) _ _ (by omega) ⟨j+1,h6,_,true,_,by omega,rfl,r6,O2.trans k6,(by show lc.next<lj.next+1+1;omega),aA.aD p2,.inr ⟨lj.next+1,by first|(rw [Bk,HO];done)|(rw [Bk,HO];rfl),by omega,Nat.lt_succ_self _,aA.gs (by omega) (aA.aC _ _),by rw [Bk];simp⟩,dK,rfl⟩
       · have f0:(lj.push .spare).get t2=some .spare:=aA.gp (by omega) Rw
         have p3:(((lj.push .spare).remove t2).push .spare).get lc.next=some (.cs [.s x.key,.i .i64 x.kind,.sl (some (.l t2)) 1 ((x.bF.take j).map bG)]):=aA.gp (by show lc.next≠lj.next+1;omega) (aA.gr (by omega) p1)
         (refine pU (show (j:Int)<(x.bF.length:Nat) by omega) @Z0 @b0 ?_)
         intro h6 r6 k6
         ((conv=>whnf);repeat ((first|refine aQ.gS (by omega) (by omega) ?_|refine aK.mk (by simp only [bR];exact decide_eq_true (by simp at WS ⊢;omega)) ?_|refine ye (b0) ?_|refine ye (p1) ?_|refine ye (p3) ?_|refine ye (f0) ?_|refine zz ?_)<;>(conv=>whnf)))
         exact Rm (x.bF.length - (j+1)) _ _ (by omega) ⟨j+1,h6,_,true,_,by omega,rfl,r6,O2.trans k6,(by show lc.next<lj.next+1+1;omega),aA.aD p3,.inr ⟨lj.next+1,by first|(rw [Bk];done)|(rw [Bk];rfl),by omega,Nat.lt_succ_self _,aA.gs (by omega) (aA.aC _ _),by rw [Bk];simp⟩,dK,rfl⟩
     obtain rfl:j=x.bF.length:=by omega
     rw [List.drop_length] at MU
     rw [List.take_length] at EX
     have Rx:iI hj a m2 ((l.drop (i+1)).flatMap dN++R):=by rw [<-CO];exact MU
     rcases EX with ⟨HO,rfl⟩|⟨t2,rfl,WT,WU,Rw,LI⟩
     · have Mv:x.bF=[]:=by simpa using HO
       have dH:[[V.s x.key,.i .i64 x.kind,.aV]]=[jV x]:=by unfold jV;rw [Mv];rfl
       ((conv=>whnf);repeat ((first|refine aH.df (show ¬((x.bF.length:Nat):Int)<(x.bF.length:Nat) by omega) ?_|refine aQ.gS (by omega) (by omega) ?_|refine ye (congrArg some dH) ?_|refine ye (sT x) ?_|refine ye (b0) ?_|refine zz ?_)<;>(conv=>whnf)))
       exact Oo (l.length - (i+1)) _ _ (by omega) ⟨i+1,hj,_,_,_,by omega,rfl,Rx,O2,.inr ⟨lj.next+1,by first|(rw [kQ,wB];done)|(rw [kQ,wB];rfl),Nat.lt_succ_self _,aA.aC _ _,by rw [kQ];simp⟩,dK,rfl⟩
     · have dH:[[V.s x.key,.i .i64 x.kind,.sl none 1 (x.bF.map bG)]]=[jV x]:=by
        unfold jV
        cases hx:x.bF with
        |nil=>rw [hx] at LI;exact absurd rfl LI
        |cons y r=>rfl
       ((conv=>whnf);repeat ((first|refine aH.df (show ¬((x.bF.length:Nat):Int)<(x.bF.length:Nat) by omega) ?_|refine aQ.gS (by omega) (by omega) ?_|refine ye (congrArg some dH) ?_|refine ye (sT x) ?_|refine ye (b0) ?_|refine zz ?_)<;>(conv=>whnf)))
       exact Oo (l.length - (i+1)) _ _ (by omega) ⟨i+1,hj,_,_,_,by omega,rfl,Rx,O2,.inr ⟨lj.next+1,by first|(rw [kQ,wB];done)|(rw [kQ,wB];rfl),Nat.lt_succ_self _,aA.aC _ _,by rw [kQ];simp⟩,dK,rfl⟩
   · refine bV.by (fun q fr st=>∃ (j:Nat) (hj lj:aA) (m2:Bool) (TT:V),j<=x.bF.length/\q=x.bF.length - j/\iI hj a m2 ((x.bF.drop j).flatMap bQ++R1)/\aA.aI (fun n=>n=a) h hj/\
      lc.next<lj.next/\lj.get lc.next=some (.cs [.s x.key,.i .i64 x.kind,TT])/\ZZ lj lc.next TT ((x.bF.take j).map bG)/\lj.get t=some .spare/\
      Fr.le [(16,.i .i64 j),(15,.i .i64 x.bF.length),(4,.p (.l lc.next) 0),(7,.i .i64 i),(6,.i .i64 l.length),(3,.sl (some (.l t)) 3 ((l.take i).map jV)),(0,.p (.g a) 0)] fr/\st=⟨hj,lj⟩)
      x.bF.length ⟨0,h5,_,_,.aV,Nat.zero_le _,rfl,r5,((hk.trans k3).trans k4).trans k5,Nat.lt_succ_self _,a2 _ _,.inl ⟨rfl,rfl⟩,aA.gs (by omega) (aA.gp (by omega) AM),dK,rfl⟩ ?_
     rintro q fr st ⟨j,hj,lj,m2,TT,GS,rfl,MU,O2,TU,b0,EX,XO,Ep,rfl⟩
     refine ⟨_,Ep,fun R2 Rm=>?_⟩
     by_cases Fv:j<x.bF.length
     · have hv:=List.getElem?_eq_getElem Fv
       have X0:=As.bF _ (List.getElem_mem Fv)
       generalize x.bF[j]=s at hv X0
       have Fe:=mI bQ hv
       have WR:=fT bQ 8 x.bF (j+1) fun s _=>Nat.le_of_eq (bM s)
       rw [Fe,List.append_assoc] at MU
       have Bk:(x.bF.take (j+1)).map bG=(x.bF.take j).map bG++[bG s]:=by rw [List.take_add_one,hv];simp
       have WS:((x.bF.take j).map bG).length<=100:=by simp;omega
       have Z0:=fun K hK=>rname_at (K:=K) hG fD MU X0 (by rw [List.length_append];omega) hK
       have p1:(lj.push .spare).get lc.next=some (.cs [.s x.key,.i .i64 x.kind,TT]):=aA.gp (by omega) b0
       rcases EX with ⟨HO,rfl⟩|⟨t2,rfl,WT,WU,Rw,LI⟩
       · have p2:((lj.push .spare).push .spare).get lc.next=some (.cs [.s x.key,.i .i64 x.kind,.aV]):=aA.gp (by show lc.next≠lj.next+1;omega) p1
         (refine pU (show (j:Int)<(x.bF.length:Nat) by omega) @Z0 @b0 ?_)
         intro h6 r6 k6
         (refine pU @b0 @p1 @p2 ?_)
         exact Rm (x.bF.length - (j+1)) _ _ (by omega) ⟨j+1,h6,_,true,_,by omega,rfl,r6,O2.trans k6,(by show lc.next<lj.next+1+1;omega),aA.aD p2,.inr ⟨lj.next+1,by first|(rw [Bk,HO];done)|(rw [Bk,HO];rfl),by omega,Nat.lt_succ_self _,aA.gs (by omega) (aA.aC _ _),by rw [Bk];simp⟩,aA.gs (by omega) (aA.gp (by show t≠lj.next+1;omega) (aA.gp (by omega) XO)),dK,rfl⟩
       · have f0:(lj.push .spare).get t2=some .spare:=aA.gp (by omega) Rw
         have p3:(((lj.push .spare).remove t2).push .spare).get lc.next=some (.cs [.s x.key,.i .i64 x.kind,.sl (some (.l t2)) 1 ((x.bF.take j).map bG)]):=aA.gp (by show lc.next≠lj.next+1;omega) (aA.gr (by omega) p1)
         (refine pU (show (j:Int)<(x.bF.length:Nat) by omega) @Z0 @b0 ?_)
         intro h6 r6 k6
         ((conv=>whnf);repeat ((first|refine aQ.gS (by omega) (by omega) ?_|refine aK.mk (by simp only [bR];exact decide_eq_true (by simp at WS ⊢;omega)) ?_|refine ye (b0) ?_|refine ye (p1) ?_|refine ye (p3) ?_|refine ye (f0) ?_|refine zz ?_)<;>(conv=>whnf)))
         exact Rm (x.bF.length - (j+1)) _ _ (by omega) ⟨j+1,h6,_,true,_,by omega,rfl,r6,O2.trans k6,(by show lc.next<lj.next+1+1;omega),aA.aD p3,.inr ⟨lj.next+1,by first|(rw [Bk];done)|(rw [Bk];rfl),by omega,Nat.lt_succ_self _,aA.gs (by omega) (aA.aC _ _),by rw [Bk];simp⟩,aA.gs (by omega) (aA.gp (by show t≠lj.next+1;omega) (aA.gr (by omega) (aA.gp (by omega) XO))),dK,rfl⟩
     obtain rfl:j=x.bF.length:=by omega
     rw [List.drop_length] at MU
     rw [List.take_length] at EX
     have Rx:iI hj a m2 ((l.drop (i+1)).flatMap dN++R):=by rw [<-CO];exact MU
     rcases EX with ⟨HO,rfl⟩|⟨t2,rfl,WT,WU,Rw,LI⟩
     · have Mv:x.bF=[]:=by simpa using HO
       have dH:[[V.s x.key,.i .i64 x.kind,.aV]]=[jV x]:=by unfold jV;rw [Mv];rfl
       have g0:(lj.push .spare).get t=some .spare:=aA.gp (by omega) XO
       ((conv=>whnf);repeat ((first|refine aH.df (show ¬((x.bF.length:Nat):Int)<(x.bF.length:Nat) by omega) ?_|refine aQ.gS (by omega) (by omega) ?_|refine ye (congrArg some dH) ?_|refine ye (sT x) ?_|refine aK.mk (by simp only [bR];exact decide_eq_true (by simp at B0 ⊢;omega)) ?_|refine ye (b0) ?_|refine ye (g0) ?_|refine zz ?_)<;>(conv=>whnf)))
       exact Oo (l.length - (i+1)) _ _ (by omega) ⟨i+1,hj,_,_,_,by omega,rfl,Rx,O2,.inr ⟨lj.next+1,by first|(rw [kQ];done)|(rw [kQ];rfl),Nat.lt_succ_self _,aA.aC _ _,by rw [kQ];simp⟩,dK,rfl⟩
     · have dH:[[V.s x.key,.i .i64 x.kind,.sl none 1 (x.bF.map bG)]]=[jV x]:=by
        unfold jV
        cases hx:x.bF with
        |nil=>rw [hx] at LI;exact absurd rfl LI
        |cons y r=>rfl
       have g0:(lj.push .spare).get t=some .spare:=aA.gp (by omega) XO
       ((conv=>whnf);repeat ((first|refine aH.df (show ¬((x.bF.length:Nat):Int)<(x.bF.length:Nat) by omega) ?_|refine aQ.gS (by omega) (by omega) ?_|refine ye (congrArg some dH) ?_|refine ye (sT x) ?_|refine aK.mk (by simp only [bR];exact decide_eq_true (by simp at B0 ⊢;omega)) ?_|refine ye (b0) ?_|refine ye (g0) ?_|refine zz ?_)<;>(conv=>whnf)))
       exact Oo (l.length - (i+1)) _ _ (by omega) ⟨i+1,hj,_,_,_,by omega,rfl,Rx,O2,.inr ⟨lj.next+1,by first|(rw [kQ];done)|(rw [kQ];rfl),Nat.lt_succ_self _,aA.aC _ _,by rw [kQ];simp⟩,dK,rfl⟩
 · obtain rfl:i=l.length:=by omega
   rw [List.drop_length] at mQ
   rw [List.take_length] at WQ
   have ZY:=hK hh m' mQ hk
   rcases WQ with ⟨wB,rfl⟩|⟨t,rfl,MT,AM,dM⟩
   · have zJ:l=[]:=by simpa using wB
     subst zJ
     (refine cJ (show ¬(((([]:List cM)).length:Nat):Int)<(([]:List cM).length:Nat) by omega) ?_)
     exact ZY
   · cases l with
     |nil=>exact absurd rfl dM
     |cons x r=>
      (refine cJ (show ¬(((x::r).length:Nat):Int)<((x::r).length:Nat) by omega) ?_)
      exact ZY
end
open Go
theorem aB.more {P:Program} {f:Nat} {args:List V} {h:aA} {K K2:V->aA->Prop} (hA:aB P f args h K) (hm:∀ v h',K v h'->∃ v',(∀ (E:Env) (x:Value),Rel E v x->Rel E v' x)/\K2 v' h'):aB P f args h K2:=
 ⟨hA.1,fun E w vs hn hs hv=>(hA.2 E w vs hn hs hv).mono fun _ _ ⟨v,x,h',E',h1,h2,h3,h4,h5,h6⟩=>by
  obtain ⟨v',q1,q2⟩:=hm v h' h1
  exact ⟨v',x,h',E',q2,h2,h3,h4,h5,q1 E' x h6⟩⟩
theorem MV {k:Nat} (E:Env) (x:Value) (h:Rel E .aV x):Rel E (.sl none k []) x:=FZ _ rfl .nil h
theorem Ry {k:Nat} {es ds:List (List V)} (hn:Cj es ds) (E:Env) (x:Value) (h:Rel E (.sl none k es) x):Rel E (.sl none k ds) x:=FZ _ rfl (.rows hn) h
theorem TV (t:cM):ME (jV t) (bD t):=by
 unfold jV bD
 refine .cons (.refl _) (.cons (.refl _) (.cons ?_ .nil))
 cases t.bF with
 |nil=>exact .nil 1
 |cons x r=>exact .refl _
theorem JJ:∀ l:List cM,Cj (l.map jV) (l.map bD)
 |[]=>.nil
 |t::r=>.cons (TV t) (JJ r)
section
variable {P:Program} (hG:bN P AF.fns.get)
include hG
theorem rpairs2_at (fD:eD P 285) {h:aA} {a:Nat} {m:Bool} {l:List dE} {R:List Int} (hr:iI h a m (eP l++R)) (hl:l.length<=100) (dZ:∀ p∈l,fR p.key/\fR p.val) (hR:R.length<=1000000) {K:V->aA->Prop}
 (hK:∀ h' m',iI h' a m' R->aA.aI (fun n=>n=a) h h'->K (.sl none 2 (l.map bJ)) h'):aB P 131 [.p (.g a) 0,.fn 132 [] []] h K:=by
 refine aB.more (rpairs_at hG fD hr hl dZ hR (K:=fun v h'=>v=ZW 2 bJ l/\K (.sl none 2 (l.map bJ)) h') fun h' m' q1 q2=>⟨rfl,hK h' m' q1 q2⟩) ?_
 rintro v h' ⟨rfl,hk⟩
 refine ⟨_,fun E x hx=>?_,hk⟩
 cases l with
 |nil=>exact MV E x hx
 |cons _ _=>exact hx
theorem rterms2_at (fD:eD P 285) {h:aA} {a:Nat} {m:Bool} {l:List cM} {R:List Int} (hr:iI h a m (eQ l++R)) (hl:l.length<=100) (dZ:∀ t∈l,yT t) (hR:R.length<=1000000) {K:V->aA->Prop}
 (hK:∀ h' m',iI h' a m' R->aA.aI (fun n=>n=a) h h'->K (.sl none 3 (l.map bD)) h'):aB P 133 [.p (.g a) 0] h K:=by
 refine aB.more (rterms_at hG fD hr hl dZ hR (K:=fun v h'=>v=ZW 3 jV l/\K (.sl none 3 (l.map bD)) h') fun h' m' q1 q2=>⟨rfl,hK h' m' q1 q2⟩) ?_
 rintro v h' ⟨rfl,hk⟩
 refine ⟨_,fun E x hx=>?_,hk⟩
 cases l with
 |nil=>exact MV E x hx
 |cons t r=>exact Ry (JJ (t::r)) E x hx
theorem beq_at {h:aA} (b:List Int) {K:V->aA->Prop} (hK:K (.b true) h):aB P 136 [.sl none 1 (b.map gH),.sl none 1 (b.map gH)] h K:=by
 have VC:bytesOf (b.map gH)=some (b.map fun n=>UInt8.ofNat n.toNat):=by
  induction b with
  |nil=>rfl
  |cons x r ih=>
   show bytesOf ([V.i .u8 x]::r.map gH)=_
   simp only [bytesOf,ih]
   rfl
 have ht:((b.map fun n=>UInt8.ofNat n.toNat)==(b.map fun n=>UInt8.ofNat n.toNat))=true:=by simp
 refine aN (hG _ AF.f136 rfl) rfl ?_
 (refine cJ @VC ?_)
 rw [ht]
 exact hK
end
open Go
structure HQ (p:aO):Prop where
 small:JI p
 name:fR p.name
 uid:0<=p.uid/\p.uid<=9223372036854775807
 prio:0<=p.prio/\p.prio<65536
 gG:MS p.gG
 aX:∀ n∈p.aX,0<=n/\n<65536
 labels:∀ q∈p.labels,fR q.key/\fR q.val
 lR:∀ t∈p.lR,yT t
 b8:∀ t∈p.b8,fR t.key/\fR t.val
 dV:fR p.dV
 cT:∀ t∈p.cT,yT t
 j9:0<=p.j9/\p.j9<256
 even:∀ t∈p.even,yT t
 node:fR p.node
 term:0<=p.term/\p.term<=9223372036854775807
def Z3 (lc:aA) (k:Nat) (bv:V) (rows:List (List V)):Prop:=(rows=[]/\bv=.aV)\/∃ t,bv=.sl (some (.l t)) k rows/\1<t/\t<lc.next/\lc.get t=some .spare/\rows≠[]
def JL:List V:=[.s [],.i .i64 0,.i .i64 0,.i .i64 0,.i .i64 0,.i .i64 0,.aV,.aV,.aV,.aV,.s [],.aV,.i .i64 0,.aV,.s [],.i .i64 0]
def MX (p:aO) (pv:V):List V:=[.s p.name,.i .i64 p.uid,.i .i64 p.prio,.i .i64 p.gG.a,.i .i64 p.gG.b,.i .i64 p.gG.c,pv,.aV,.aV,.aV,.s [],.aV,.i .i64 0,.aV,.s [],.i .i64 0]
def MY (p:aO) (pv tv:V):List V:=[.s p.name,.i .i64 p.uid,.i .i64 p.prio,.i .i64 p.gG.a,.i .i64 p.gG.b,.i .i64 p.gG.c,pv,.sl none 2 (p.labels.map bJ),.sl none 3 (p.lR.map bD),tv,.s [],.aV,.i .i64 0,.aV,.s [],.i .i64 0]
theorem Eu {fr:Fr} {st:St} {rs:List RV} {v:V} {K:V->aA->Prop} (h:eX fr st rs=some v) (hK:K v st.g):wR rs K .ret fr st:=by
 show (match eX fr st rs with|some v=>K v st.g|none=>False)
 rw [h];exact hK
theorem sV {fr:Fr} {st:St} {k t:Nat} {j:Key} {c cs:List V} {v:V} {b:Bool} (h1:fr.get k=.p j 0) (h2:st.get j=some (.cs c)) (h3:dL c 0 (some 16)=some v) (h5:v.pass=some (.agg cs)) (h4:fr.get t=.b b):eX fr st [.cell k (some 16),.t t]=some (.bY [.agg cs,.b b]):=by
 have e1:tS fr st (.cell k (some 16))=some (.agg cs):=by
  unfold tS
  simp only [h1,h2,h3,h5]
 have e2:tS fr st (.t t)=some (.b b):=by
  show (fr.get t).pass=_
  rw [h4];rfl
 unfold eX
 simp only [nQ,e1,e2]
theorem LK (p:aO):0<(bW p).length:=by
 unfold bW
 simp only [List.length_append,aR]
 omega
section
variable {P:Program} (hG:bN P AF.fns.get)
include hG
theorem rget0_at (fD:eD P 285) (p:aO) (hp:HQ p) (hm:Pure P 115 [.agg (aJ p)] (·=.b true)) {h:aA} {K:V->aA->Prop}
 (hK:∀ cs h',yZ gV ⟨0,0⟩ gA cs (aJ p)->aA.aI (fun _=>False) h h'->K (.bY [.agg cs,.b true]) h'):aB P 53 [.sl none 1 ((bW p).map gH)] h K:=by
 obtain ⟨S17,WO⟩:∃ S:List Int,S=[]:=⟨_,rfl⟩
 have l17:S17.length<=0:=by rw [WO];exact Nat.le_refl _
 obtain ⟨S16,WN⟩:∃ S:List Int,S=dB p.term 8++S17:=⟨_,rfl⟩
 have l16:S16.length<=8:=by rw [WN,List.length_append];rw [aR];omega
 obtain ⟨S15,WM⟩:∃ S:List Int,S=bQ p.node++S16:=⟨_,rfl⟩
 have l15:S15.length<=16:=by rw [WM,List.length_append];rw [bM];omega
 obtain ⟨S14,WL⟩:∃ S:List Int,S=eQ p.even++S15:=⟨_,rfl⟩
 have l14:S14.length<=81017:=by rw [WL,List.length_append];have:=jS hp.small.even hp.small.Ro;omega
 obtain ⟨S13,WK⟩:∃ S:List Int,S=dB p.j9 1++S14:=⟨_,rfl⟩
 have l13:S13.length<=81018:=by rw [WK,List.length_append];rw [aR];omega
 obtain ⟨S12,WJ⟩:∃ S:List Int,S=eQ p.cT++S13:=⟨_,rfl⟩
 have l12:S12.length<=162019:=by rw [WJ,List.length_append];have:=jS hp.small.cT hp.small.Rn;omega
 obtain ⟨S11,WI⟩:∃ S:List Int,S=bQ p.dV++S12:=⟨_,rfl⟩
 have l11:S11.length<=162027:=by rw [WI,List.length_append];rw [bM];omega
 obtain ⟨S10,Vc⟩:∃ S:List Int,S=p.b8.flatMap iH++S11:=⟨_,rfl⟩
 have l10:S10.length<=163727:=by rw [Vc,List.length_append];have:=eS iH 17 p.b8 fun t _=>Nat.le_of_eq (pO t);have:=hp.small.b8;omega
 obtain ⟨S9,e9⟩:∃ S:List Int,S=dB p.b8.length 1++S10:=⟨_,rfl⟩
 have l9:S9.length<=163728:=by rw [e9,List.length_append];rw [aR];omega
 obtain ⟨S8,e8⟩:∃ S:List Int,S=eQ p.lR++S9:=⟨_,rfl⟩
 have l8:S8.length<=244729:=by rw [e8,List.length_append];have:=jS hp.small.lR hp.small.WG;omega
 obtain ⟨S7,e7⟩:∃ S:List Int,S=eP p.labels++S8:=⟨_,rfl⟩
 have l7:S7.length<=246330:=by rw [e7,List.length_append];have:=nV hp.small.labels;omega
 obtain ⟨S6,e6⟩:∃ S:List Int,S=p.aX.flatMap jR++S7:=⟨_,rfl⟩
 have l6:S6.length<=246530:=by rw [e6,List.length_append];have:=eS jR 2 p.aX fun _ _=>Nat.le_of_eq (aR _ _);have:=hp.small.aX;omega
 obtain ⟨S5,e5⟩:∃ S:List Int,S=dB p.aX.length 1++S6:=⟨_,rfl⟩
 have l5:S5.length<=246531:=by rw [e5,List.length_append];rw [aR];omega
 obtain ⟨S4,e4⟩:∃ S:List Int,S=pN p.gG++S5:=⟨_,rfl⟩
 have l4:S4.length<=246543:=by rw [e4,List.length_append];rw [pP];omega
 obtain ⟨S3,e3⟩:∃ S:List Int,S=dB p.prio 2++S4:=⟨_,rfl⟩
 have l3:S3.length<=246545:=by rw [e3,List.length_append];rw [aR];omega
 obtain ⟨S2,e2⟩:∃ S:List Int,S=dB p.uid 8++S3:=⟨_,rfl⟩
 have l2:S2.length<=246553:=by rw [e2,List.length_append];rw [aR];omega
 obtain ⟨S1,e1⟩:∃ S:List Int,S=bQ p.name++S2:=⟨_,rfl⟩
 have l1:S1.length<=246561:=by rw [e1,List.length_append];rw [bM];omega
 obtain ⟨S0,e0⟩:∃ S:List Int,S=dB 1 1++S1:=⟨_,rfl⟩
 have l0:S0.length<=246562:=by rw [e0,List.length_append];rw [aR];omega
 have hS0:bW p=S0:=by
  rw [e0,e1,e2,e3,e4,e5,e6,e7,e8,e9,Vc,WI,WJ,WK,WL,WM,WN,WO]
  unfold bW Aq CM
  simp only [List.append_assoc,List.append_nil]
 have fM:=LK p
 rw [hS0] at fM ⊢
 have zB:=fun K hK=>rnew_at (K:=K) hG (h:=h) S0 (by omega) hK
 refine aN (hG _ AF.f53 rfl) rfl ?_
 (refine cJ @zB ?_)
 intro hA rA kA
 rw [e0] at rA
 have c0:=fun K hK=>rnumI_at (K:=K) hG rA (by omega) (by omega) (by decide) (by omega) (by omega) hK
 (refine cJ @c0 ?_)
 intro h0 r0 k0
 rw [e1] at r0
 have c1:=fun K hK=>rname_at (K:=K) hG fD r0 hp.name (by omega) hK
 (refine cJ @c1 ?_)
 intro h1 r1 k1
 rw [e2] at r1
 have c2:=fun K hK=>rnumI_at (K:=K) hG r1 (by omega) hp.uid.1 (by show p.uid<(18446744073709551616:Int);have:=hp.uid.2;omega) hp.uid.2 (by omega) hK
 (refine cJ @c2 ?_)
 intro h2 r2 k2
 rw [e3] at r2
 have c3:=fun K hK=>rnumI_at (K:=K) hG r2 (by omega) hp.prio.1 (by show p.prio<(65536:Int);exact hp.prio.2) (by have:=hp.prio.2;omega) (by omega) hK
 (refine cJ @c3 ?_)
 intro h3 r3 k3
 rw [e4] at r3
 have c4:=fun K hK=>rres_at (K:=K) hG r3 hp.gG (by omega) hK
 (refine cJ @c4 ?_)
 intro h4 r4 k4
 rw [e5] at r4
 have UB:=hp.small.aX
 have fC:=rN jR (fun n=>by show 1<=(dB n 2).length;rw [aR];omega) p.aX
 have c5:=fun K hK=>rcount_at (K:=K) hG r4 (by omega) (by rw [e6,List.length_append];omega) (by omega) hK
 (refine cJ @c5 ?_)
 intro h5 r5 k5
 rw [e6] at r5
 have kk5:=((((k0.trans k1).trans k2).trans k3).trans k4).trans k5
 (refine zr ?_)
 refine bV.by (fun q fr st=>∃ (i:Nat) (hh lj:aA) (m':Bool) (pv:V),i<=p.aX.length/\q=p.aX.length - i/\iI hh h.next m' ((p.aX.drop i).flatMap jR++S7)/\aA.aI (fun n=>n=h.next) hA hh/\
  1<lj.next/\lj.get 0=some (.cs JL)/\lj.get 1=some (.cs (MX p pv))/\Z3 lj 1 pv ((p.aX.take i).map fV)/\
  Fr.le [(21,.i .i64 i),(20,.i .i64 p.aX.length),(5,.p (.l 1) 0),(4,.p (.g h.next) 0),(2,.p (.l 0) 0),(0,.sl none 1 (S0.map gH))] fr/\st=⟨hh,lj⟩)
  p.aX.length ⟨0,h5,_,_,.aV,Nat.zero_le _,rfl,r5,kk5,Nat.lt_succ_self _,rfl,rfl,.inl ⟨rfl,rfl⟩,dK,rfl⟩ ?_
 rintro q fr st ⟨i,hh,lj,m',pv,hi,rfl,mQ,hk,TU,z0,b0,hpv,dO,rfl⟩
 refine ⟨_,dO,fun R hR=>?_⟩
 by_cases eB:i<p.aX.length
 · have he:=List.getElem?_eq_getElem eB
   have As:=hp.aX _ (List.getElem_mem eB)
   generalize p.aX[i]=x at he As
   have hd:=mI jR he
   have WR:=fT jR 2 p.aX (i+1) fun _ _=>Nat.le_of_eq (aR _ _)
   rw [hd,List.append_assoc] at mQ
   have kQ:(p.aX.take (i+1)).map fV=(p.aX.take i).map fV++[fV x]:=by rw [List.take_add_one,he];simp
   have B0:((p.aX.take i).map fV).length<=100:=by simp;omega
   have c:=fun K hK=>rnumI_at (K:=K) hG mQ (by omega) As.1 (by show x<(65536:Int);exact As.2) (by have:=As.2;omega) (by rw [List.length_append];omega) hK
   have p1:(lj.push .spare).get 1=some (.cs (MX p pv)):=aA.gp (by omega) b0
   rcases hpv with ⟨wB,rfl⟩|⟨t,rfl,MT,AM,ht3,dM⟩
   · have p2:((lj.push .spare).push .spare).get 1=some (.cs (MX p .aV)):=aA.gp (by show 1≠lj.next+1;omega) p1
     (refine pU (show (i:Int)<(p.aX.length:Nat) by omega) @c @b0 ?_)
     intro h' r' q'
     (refine pU @b0 @p1 @p2 ?_)
     exact hR (p.aX.length - (i+1)) _ _ (by omega) ⟨i+1,h',_,m',_,by omega,rfl,r',hk.trans q',(by show 1<lj.next+1+1;omega),aA.gs (by omega) (aA.gp (by show 0≠lj.next+1;omega) (aA.gp (by omega) z0)),aA.aD p2,.inr ⟨lj.next+1,by first|(rw [kQ,wB];done)|(rw [kQ,wB];rfl),by omega,Nat.lt_succ_self _,aA.gs (by omega) (aA.aC _ _),by rw [kQ];simp⟩,dK,rfl⟩
   · have f0:(lj.push .spare).get t=some .spare:=aA.gp (by omega) ht3
     have p3:(((lj.push .spare).remove t).push .spare).get 1=some (.cs (MX p (.sl (some (.l t)) 1 ((p.aX.take i).map fV)))):=aA.gp (by show 1≠lj.next+1;omega) (aA.gr (by omega) p1)
     (refine pU (show (i:Int)<(p.aX.length:Nat) by omega) @c @b0 ?_)
     intro h' r' q'
     ((conv=>whnf);repeat ((first|refine aQ.gS (by omega) (by omega) ?_|refine aK.mk (by simp only [bR];exact decide_eq_true (by simp at B0 ⊢;omega)) ?_|refine ye (b0) ?_|refine ye (p1) ?_|refine ye (p3) ?_|refine ye (f0) ?_|refine zz ?_)<;>(conv=>whnf)))
     exact hR (p.aX.length - (i+1)) _ _ (by omega) ⟨i+1,h',_,m',_,by omega,rfl,r',hk.trans q',(by show 1<lj.next+1+1;omega),aA.gs (by omega) (aA.gp (by show 0≠lj.next+1;omega) (aA.gr (by omega) (aA.gp (by omega) z0))),aA.aD p3,.inr ⟨lj.next+1,by first|(rw [kQ];done)|(rw [kQ];rfl),by omega,Nat.lt_succ_self _,aA.gs (by omega) (aA.aC _ _),by rw [kQ];simp⟩,dK,rfl⟩
 obtain rfl:i=p.aX.length:=by omega
 rw [List.drop_length,List.flatMap_nil,List.nil_append,e7] at mQ
 rw [List.take_length] at hpv
 have q1:∀ o,(lj.set 1 o).get 1=some o:=fun o=>aA.aD b0
 have q2:∀ o o2,((lj.set 1 o).set 1 o2).get 1=some o2:=fun o o2=>aA.aD (q1 o)
 have c7:=fun K hK=>rpairs2_at (K:=K) hG fD mQ hp.small.labels hp.labels (by omega) hK
 (refine pU (show ¬((p.aX.length:Nat):Int)<(p.aX.length:Nat) by omega) @c7 @b0 ?_)
 intro h7 m7 r7 k7
 rw [e8] at r7
 have c8:=fun K hK=>rterms2_at (K:=K) hG fD r7 hp.small.lR hp.lR (by omega) hK
 (refine pU @c8 @b0 @q1 ?_)
 intro h8 m8 r8 k8
 rw [e9] at r8
 have Zt:=hp.small.b8
 have Z4:=rN iH (fun t=>by rw [pO];omega) p.b8
 have c9:=fun K hK=>rcount_at (K:=K) hG r8 (by omega) (by rw [Vc,List.length_append];omega) (by omega) hK
 (refine O0 @c9 @b0 @q1 @q2 ?_)
 intro h9 r9 k9
 rw [Vc] at r9
 have kk9:=((hk.trans k7).trans k8).trans k9
 (refine zr ?_)
 refine bV.by (fun q fr st=>∃ (i:Nat) (hh lj:aA) (m':Bool) (tv':V),i<=p.b8.length/\q=p.b8.length - i/\iI hh h.next m' ((p.b8.drop i).flatMap iH++S11)/\aA.aI (fun n=>n=h.next) hA hh/\
  1<lj.next/\lj.get 0=some (.cs JL)/\lj.get 1=some (.cs (MY p pv tv'))/\Z3 lj 3 tv' ((p.b8.take i).map eO)/\
  Fr.le [(39,.i .i64 i),(38,.i .i64 p.b8.length),(5,.p (.l 1) 0),(4,.p (.g h.next) 0),(2,.p (.l 0) 0),(0,.sl none 1 (S0.map gH))] fr/\st=⟨hh,lj⟩)
  p.b8.length ⟨0,h9,_,_,.aV,Nat.zero_le _,rfl,r9,kk9,(by exact TU),aA.gs (by omega) (aA.gs (by omega) z0),q2 _ _,.inl ⟨rfl,rfl⟩,dK,rfl⟩ ?_
 clear TU z0 b0 q1 q2 c7 c8 c9
 rintro q fr st ⟨i,hh,lj,m',tv',hi,rfl,mQ,hk,TU,z0,b0,htv,Ep,rfl⟩
 refine ⟨_,Ep,fun R hR=>?_⟩
 by_cases eB:i<p.b8.length
 · have he:=List.getElem?_eq_getElem eB
   have As:=hp.b8 _ (List.getElem_mem eB)
   generalize p.b8[i]=x at he As
   have hd:=mI iH he
   have WR:=fT iH 17 p.b8 (i+1) fun t _=>Nat.le_of_eq (pO t)
   rw [hd] at mQ
   unfold iH at mQ
   rw [List.append_assoc,List.append_assoc,List.append_assoc] at mQ
   change iI hh h.next m' (bQ x.key++(bQ x.val++(wG x.any++((p.b8.drop (i+1)).flatMap iH++S11)))) at mQ
   have kQ:(p.b8.take (i+1)).map eO=(p.b8.take i).map eO++[eO x]:=by rw [List.take_add_one,he];simp
   have B0:((p.b8.take i).map eO).length<=100:=by simp;omega
   have Sw:(wG x.any).length=1:=aR _ _
   have p1:(lj.push .spare).get 1=some (.cs (MY p pv tv')):=aA.gp (by omega) b0
   have d1:=fun K hK=>rname_at (K:=K) hG fD mQ As.1 (by rw [List.length_append,List.length_append,List.length_append,bM,Sw];omega) hK
   rcases htv with ⟨wB,rfl⟩|⟨t,rfl,MT,AM,ht3,dM⟩
   all_goals
    (refine pU (show (i:Int)<(p.b8.length:Nat) by omega) @d1 @b0 ?_)
    intro ha ra ka
    have d2:=fun K hK=>rname_at (K:=K) hG fD ra As.2 (by rw [List.length_append,List.length_append,Sw];omega) hK
    (refine iU @d2 @b0 ?_)
    intro GN rb kb
    have d3:=fun K hK=>rbool_at (K:=K) hG rb (by rw [List.length_append];omega) hK
    (refine iU @d3 @b0 ?_)
    intro hc rc kc
   · have p2:((lj.push .spare).push .spare).get 1=some (.cs (MY p pv .aV)):=aA.gp (by show 1≠lj.next+1;omega) p1
     (refine pU @b0 @p1 @p2 ?_)
     exact hR (p.b8.length - (i+1)) _ _ (by omega) ⟨i+1,hc,_,_,_,by omega,rfl,rc,((hk.trans ka).trans kb).trans kc,(by show 1<lj.next+1+1;omega),aA.gs (by omega) (aA.gp (by show 0≠lj.next+1;omega) (aA.gp (by omega) z0)),aA.aD p2,.inr ⟨lj.next+1,by first|(rw [kQ,wB];done)|(rw [kQ,wB];rfl),by omega,Nat.lt_succ_self _,aA.gs (by omega) (aA.aC _ _),by rw [kQ];simp⟩,dK,rfl⟩
   · have f0:(lj.push .spare).get t=some .spare:=aA.gp (by omega) ht3
     have p3:(((lj.push .spare).remove t).push .spare).get 1=some (.cs (MY p pv (.sl (some (.l t)) 3 ((p.b8.take i).map eO)))):=aA.gp (by show 1≠lj.next+1;omega) (aA.gr (by omega) p1)
     ((conv=>whnf);repeat ((first|refine aQ.gS (by omega) (by omega) ?_|refine aK.mk (by simp only [bR];exact decide_eq_true (by simp at B0 ⊢;omega)) ?_|refine ye (b0) ?_|refine ye (p1) ?_|refine ye (p3) ?_|refine ye (f0) ?_|refine zz ?_)<;>(conv=>whnf)))
     exact hR (p.b8.length - (i+1)) _ _ (by omega) ⟨i+1,hc,_,_,_,by omega,rfl,rc,((hk.trans ka).trans kb).trans kc,(by show 1<lj.next+1+1;omega),aA.gs (by omega) (aA.gp (by show 0≠lj.next+1;omega) (aA.gr (by omega) (aA.gp (by omega) z0))),aA.aD p3,.inr ⟨lj.next+1,by first|(rw [kQ];done)|(rw [kQ];rfl),by omega,Nat.lt_succ_self _,aA.gs (by omega) (aA.aC _ _),by rw [kQ];simp⟩,dK,rfl⟩
 obtain rfl:i=p.b8.length:=by omega
 rw [List.drop_length,List.flatMap_nil,List.nil_append,WI] at mQ
 rw [List.take_length] at htv
 have q1:∀ o,(lj.set 1 o).get 1=some o:=fun o=>aA.aD b0
 have q2:∀ o o2,((lj.set 1 o).set 1 o2).get 1=some o2:=fun o o2=>aA.aD (q1 o)
 have q3:∀ o o2 o3,(((lj.set 1 o).set 1 o2).set 1 o3).get 1=some o3:=fun o o2 o3=>aA.aD (q2 o o2)
 have q4:∀ o o2 o3 o4,((((lj.set 1 o).set 1 o2).set 1 o3).set 1 o4).get 1=some o4:=fun o o2 o3 o4=>aA.aD (q3 o o2 o3)
 have q5:∀ o o2 o3 o4 o5,(((((lj.set 1 o).set 1 o2).set 1 o3).set 1 o4).set 1 o5).get 1=some o5:=fun o o2 o3 o4 o5=>aA.aD (q4 o o2 o3 o4)
 have q6:∀ o o2 o3 o4 o5 o6,((((((lj.set 1 o).set 1 o2).set 1 o3).set 1 o4).set 1 o5).set 1 o6).get 1=some o6:=fun o o2 o3 o4 o5 o6=>aA.aD (q5 o o2 o3 o4 o5)
 have z6:∀ o o2 o3 o4 o5 o6,((((((lj.set 1 o).set 1 o2).set 1 o3).set 1 o4).set 1 o5).set 1 o6).get 0=some (.cs JL):=fun o o2 o3 o4 o5 o6=>aA.gs (by omega) (aA.gs (by omega) (aA.gs (by omega) (aA.gs (by omega) (aA.gs (by omega) (aA.gs (by omega) z0)))))
 have z7:∀ o o2 o3 o4 o5 o6 o7,(((((((lj.set 1 o).set 1 o2).set 1 o3).set 1 o4).set 1 o5).set 1 o6).set 0 o7).get 0=some o7:=fun o o2 o3 o4 o5 o6 o7=>aA.aD (z6 o o2 o3 o4 o5 o6)
 have XZ:=fun K hK=>rname_at (K:=K) hG fD mQ hp.dV (by omega) hK
 (refine pU (show ¬((p.b8.length:Nat):Int)<(p.b8.length:Nat) by omega) @XZ @b0 ?_)
 intro HK r11 ZR
 rw [WJ] at r11
 have XT:=fun K hK=>rterms2_at (K:=K) hG fD r11 hp.small.cT hp.cT (by omega) hK
 (refine pU @XT @b0 @q1 ?_)
 intro Ei m12 r12 TL
 rw [WK] at r12
 have XU:=fun K hK=>rnumI_at (K:=K) hG r12 (by omega) hp.j9.1 (by show p.j9<(256:Int);exact hp.j9.2) (by have:=hp.j9.2;omega) (by omega) hK
 (refine O0 @XU @b0 @q1 @q2 ?_)
 intro XR r13 ZS
 rw [WL] at r13
 have XV:=fun K hK=>rterms2_at (K:=K) hG fD r13 hp.small.even hp.even (by omega) hK
 (refine Jk @XV @b0 @q1 @q2 @q3 ?_)
 intro ZK m14 r14 WC
 rw [WM] at r14
 have XW:=fun K hK=>rname_at (K:=K) hG fD r14 hp.node (by omega) hK
 (refine Wk @XW @b0 @q1 @q2 @q3 @q4 ?_)
 intro h15 r15 k15
 rw [WN] at r15
 have c16:=fun K hK=>rnumI_at (K:=K) hG r15 (by omega) hp.term.1 (by show p.term<(18446744073709551616:Int);have:=hp.term.2;omega) hp.term.2 (by omega) hK
 (refine Zr @c16 @b0 @q1 @q2 @q3 @q4 @q5 ?_)
 intro TK r16 ZM
 rw [WO] at r16
 have TW:=(((((hk.trans ZR).trans TL).trans ZS).trans WC).trans k15).trans ZM
 have hSl:(S0.map gH).length=S0.length:=List.length_map _
 have cE:=fun K hK=>rend_at (K:=K) hG r16 hK
 have cP:=fun K hK=>wput_at (K:=K) hG fD p hp.small hm (h:=TK) hK
 have cQ:=fun (h':aA) K hK=>beq_at (K:=K) (h:=h') hG S0 hK
 rw [hS0] at cP
 rcases hpv with ⟨Z5,rfl⟩|⟨t1,rfl,_,_,_,U1⟩<;>rcases htv with ⟨Z6,rfl⟩|⟨t2,rfl,_,_,_,Z7⟩
 · have E6:p.aX=[]:=by simpa using Z5
   have Z8:p.b8=[]:=by simpa using Z6
   have LL:aJ p=[.s p.name,.i .i64 p.uid,.i .i64 p.prio,.i .i64 p.gG.a,.i .i64 p.gG.b,.i .i64 p.gG.c,.sl none 1 [],.sl none 2 (p.labels.map bJ),.sl none 3 (p.lR.map bD),.sl none 3 [],.s p.dV,.sl none 3 (p.cT.map bD),.i .i64 p.j9,.sl none 3 (p.even.map bD),.s p.node,.i .i64 p.term]:=by unfold aJ;rw [E6,Z8];rfl
   have Ev:yZ gV ⟨0,0⟩ gA [.s p.name,.i .i64 p.uid,.i .i64 p.prio,.i .i64 p.gG.a,.i .i64 p.gG.b,.i .i64 p.gG.c,.aV,.sl none 2 (p.labels.map bJ),.sl none 3 (p.lR.map bD),.aV,.s p.dV,.sl none 3 (p.cT.map bD),.i .i64 p.j9,.sl none 3 (p.even.map bD),.s p.node,.i .i64 p.term] (aJ p):=by
    rw [LL]
    exact yM
   ((conv=>whnf);repeat ((first|refine cA (cE _) ?_|refine aH.df (show ¬((S0.map gH).length:Int)=0 by omega) ?_|refine ye (b0) ?_|refine ye (q1 _) ?_|refine ye (q2 _ _) ?_|refine ye (q3 _ _ _) ?_|refine ye (q4 _ _ _ _) ?_|refine ye (q5 _ _ _ _ _) ?_|refine ye (q6 _ _ _ _ _ _) ?_|refine zz ?_)<;>(conv=>whnf)))
   refine cY.mk (aB.less (args':=[.agg (aJ p)]) (hr:=⟨.inr (.inl ⟨_,_,rfl,rfl,Ev⟩),trivial⟩) (h0:=cP _ fun h' LM=>?_))
   ((conv=>whnf);repeat ((first|refine cA (cQ h' _) ?_|refine ye (b0) ?_|refine ye (q1 _) ?_|refine ye (q2 _ _) ?_|refine ye (q3 _ _ _) ?_|refine ye (q4 _ _ _ _) ?_|refine ye (q5 _ _ _ _ _) ?_|refine ye (q6 _ _ _ _ _ _) ?_|refine ye (z6 _ _ _ _ _ _) ?_|refine zz ?_)<;>(conv=>whnf)))
   have HR:aA.aI (fun _=>False) h h':=(aA.aI.trans (b:=fun n=>n=h.next) (kA.mono fun _ _ e=>e.elim) (aA.aI.trans (b:=fun n=>n=h.next) TW (LM.mono fun _ _ e=>e.elim))).mono fun n hn e=>absurd hn (by omega)
   refine Eu (rs:=AF.f53.results) (v:=.bY [.agg [.s p.name,.i .i64 p.uid,.i .i64 p.prio,.i .i64 p.gG.a,.i .i64 p.gG.b,.i .i64 p.gG.c,.aV,.sl none 2 (p.labels.map bJ),.sl none 3 (p.lR.map bD),.aV,.s p.dV,.sl none 3 (p.cT.map bD),.i .i64 p.j9,.sl none 3 (p.even.map bD),.s p.node,.i .i64 p.term],.b true]) ?_ (hK _ _ Ev HR)
   exact sV rfl (z7 _ _ _ _ _ _ _) rfl rfl rfl
 · have E6:p.aX=[]:=by simpa using Z5
   have LL:aJ p=[.s p.name,.i .i64 p.uid,.i .i64 p.prio,.i .i64 p.gG.a,.i .i64 p.gG.b,.i .i64 p.gG.c,.sl none 1 [],.sl none 2 (p.labels.map bJ),.sl none 3 (p.lR.map bD),.sl none 3 (p.b8.map eO),.s p.dV,.sl none 3 (p.cT.map bD),.i .i64 p.j9,.sl none 3 (p.even.map bD),.s p.node,.i .i64 p.term]:=by unfold aJ;rw [E6];rfl
   have Ev:yZ gV ⟨0,0⟩ gA [.s p.name,.i .i64 p.uid,.i .i64 p.prio,.i .i64 p.gG.a,.i .i64 p.gG.b,.i .i64 p.gG.c,.aV,.sl none 2 (p.labels.map bJ),.sl none 3 (p.lR.map bD),.sl none 3 (p.b8.map eO),.s p.dV,.sl none 3 (p.cT.map bD),.i .i64 p.j9,.sl none 3 (p.even.map bD),.s p.node,.i .i64 p.term] (aJ p):=by
    rw [LL]
    exact yM
   ((conv=>whnf);repeat ((first|refine cA (cE _) ?_|refine aH.df (show ¬((S0.map gH).length:Int)=0 by omega) ?_|refine ye (b0) ?_|refine ye (q1 _) ?_|refine ye (q2 _ _) ?_|refine ye (q3 _ _ _) ?_|refine ye (q4 _ _ _ _) ?_|refine ye (q5 _ _ _ _ _) ?_|refine ye (q6 _ _ _ _ _ _) ?_|refine zz ?_)<;>(conv=>whnf)))
   refine cY.mk (aB.less (args':=[.agg (aJ p)]) (hr:=⟨.inr (.inl ⟨_,_,rfl,rfl,Ev⟩),trivial⟩) (h0:=cP _ fun h' LM=>?_))
   ((conv=>whnf);repeat ((first|refine cA (cQ h' _) ?_|refine ye (b0) ?_|refine ye (q1 _) ?_|refine ye (q2 _ _) ?_|refine ye (q3 _ _ _) ?_|refine ye (q4 _ _ _ _) ?_|refine ye (q5 _ _ _ _ _) ?_|refine ye (q6 _ _ _ _ _ _) ?_|refine ye (z6 _ _ _ _ _ _) ?_|refine zz ?_)<;>(conv=>whnf)))
   have HR:aA.aI (fun _=>False) h h':=(aA.aI.trans (b:=fun n=>n=h.next) (kA.mono fun _ _ e=>e.elim) (aA.aI.trans (b:=fun n=>n=h.next) TW (LM.mono fun _ _ e=>e.elim))).mono fun n hn e=>absurd hn (by omega)
   refine Eu (rs:=AF.f53.results) (v:=.bY [.agg [.s p.name,.i .i64 p.uid,.i .i64 p.prio,.i .i64 p.gG.a,.i .i64 p.gG.b,.i .i64 p.gG.c,.aV,.sl none 2 (p.labels.map bJ),.sl none 3 (p.lR.map bD),.sl none 3 (p.b8.map eO),.s p.dV,.sl none 3 (p.cT.map bD),.i .i64 p.j9,.sl none 3 (p.even.map bD),.s p.node,.i .i64 p.term],.b true]) ?_ (hK _ _ Ev HR)
   exact sV rfl (z7 _ _ _ _ _ _ _) rfl rfl rfl
 · have Z8:p.b8=[]:=by simpa using Z6
   have LL:aJ p=[.s p.name,.i .i64 p.uid,.i .i64 p.prio,.i .i64 p.gG.a,.i .i64 p.gG.b,.i .i64 p.gG.c,.sl none 1 (p.aX.map fV),.sl none 2 (p.labels.map bJ),.sl none 3 (p.lR.map bD),.sl none 3 [],.s p.dV,.sl none 3 (p.cT.map bD),.i .i64 p.j9,.sl none 3 (p.even.map bD),.s p.node,.i .i64 p.term]:=by unfold aJ;rw [Z8];rfl
   have Ev:yZ gV ⟨0,0⟩ gA [.s p.name,.i .i64 p.uid,.i .i64 p.prio,.i .i64 p.gG.a,.i .i64 p.gG.b,.i .i64 p.gG.c,.sl none 1 (p.aX.map fV),.sl none 2 (p.labels.map bJ),.sl none 3 (p.lR.map bD),.aV,.s p.dV,.sl none 3 (p.cT.map bD),.i .i64 p.j9,.sl none 3 (p.even.map bD),.s p.node,.i .i64 p.term] (aJ p):=by
    rw [LL]
    exact yM
   ((conv=>whnf);repeat ((first|refine cA (cE _) ?_|refine aH.df (show ¬((S0.map gH).length:Int)=0 by omega) ?_|refine ye (b0) ?_|refine ye (q1 _) ?_|refine ye (q2 _ _) ?_|refine ye (q3 _ _ _) ?_|refine ye (q4 _ _ _ _) ?_|refine ye (q5 _ _ _ _ _) ?_|refine ye (q6 _ _ _ _ _ _) ?_|refine zz ?_)<;>(conv=>whnf)))
   refine cY.mk (aB.less (args':=[.agg (aJ p)]) (hr:=⟨.inr (.inl ⟨_,_,rfl,rfl,Ev⟩),trivial⟩) (h0:=cP _ fun h' LM=>?_))
   ((conv=>whnf);repeat ((first|refine cA (cQ h' _) ?_|refine ye (b0) ?_|refine ye (q1 _) ?_|refine ye (q2 _ _) ?_|refine ye (q3 _ _ _) ?_|refine ye (q4 _ _ _ _) ?_|refine ye (q5 _ _ _ _ _) ?_|refine ye (q6 _ _ _ _ _ _) ?_|refine ye (z6 _ _ _ _ _ _) ?_|refine zz ?_)<;>(conv=>whnf)))
   have HR:aA.aI (fun _=>False) h h':=(aA.aI.trans (b:=fun n=>n=h.next) (kA.mono fun _ _ e=>e.elim) (aA.aI.trans (b:=fun n=>n=h.next) TW (LM.mono fun _ _ e=>e.elim))).mono fun n hn e=>absurd hn (by omega)
   refine Eu (rs:=AF.f53.results) (v:=.bY [.agg [.s p.name,.i .i64 p.uid,.i .i64 p.prio,.i .i64 p.gG.a,.i .i64 p.gG.b,.i .i64 p.gG.c,.sl none 1 (p.aX.map fV),.sl none 2 (p.labels.map bJ),.sl none 3 (p.lR.map bD),.aV,.s p.dV,.sl none 3 (p.cT.map bD),.i .i64 p.j9,.sl none 3 (p.even.map bD),.s p.node,.i .i64 p.term],.b true]) ?_ (hK _ _ Ev HR)
   exact sV rfl (z7 _ _ _ _ _ _ _) rfl rfl rfl
 · have LL:aJ p=[.s p.name,.i .i64 p.uid,.i .i64 p.prio,.i .i64 p.gG.a,.i .i64 p.gG.b,.i .i64 p.gG.c,.sl none 1 (p.aX.map fV),.sl none 2 (p.labels.map bJ),.sl none 3 (p.lR.map bD),.sl none 3 (p.b8.map eO),.s p.dV,.sl none 3 (p.cT.map bD),.i .i64 p.j9,.sl none 3 (p.even.map bD),.s p.node,.i .i64 p.term]:=rfl
   have Ev:yZ gV ⟨0,0⟩ gA [.s p.name,.i .i64 p.uid,.i .i64 p.prio,.i .i64 p.gG.a,.i .i64 p.gG.b,.i .i64 p.gG.c,.sl none 1 (p.aX.map fV),.sl none 2 (p.labels.map bJ),.sl none 3 (p.lR.map bD),.sl none 3 (p.b8.map eO),.s p.dV,.sl none 3 (p.cT.map bD),.i .i64 p.j9,.sl none 3 (p.even.map bD),.s p.node,.i .i64 p.term] (aJ p):=by
    rw [LL]
    exact yM
   ((conv=>whnf);repeat ((first|refine cA (cE _) ?_|refine aH.df (show ¬((S0.map gH).length:Int)=0 by omega) ?_|refine ye (b0) ?_|refine ye (q1 _) ?_|refine ye (q2 _ _) ?_|refine ye (q3 _ _ _) ?_|refine ye (q4 _ _ _ _) ?_|refine ye (q5 _ _ _ _ _) ?_|refine ye (q6 _ _ _ _ _ _) ?_|refine zz ?_)<;>(conv=>whnf)))
   refine cY.mk (aB.less (args':=[.agg (aJ p)]) (hr:=⟨.inr (.inl ⟨_,_,rfl,rfl,Ev⟩),trivial⟩) (h0:=cP _ fun h' LM=>?_))
   ((conv=>whnf);repeat ((first|refine cA (cQ h' _) ?_|refine ye (b0) ?_|refine ye (q1 _) ?_|refine ye (q2 _ _) ?_|refine ye (q3 _ _ _) ?_|refine ye (q4 _ _ _ _) ?_|refine ye (q5 _ _ _ _ _) ?_|refine ye (q6 _ _ _ _ _ _) ?_|refine ye (z6 _ _ _ _ _ _) ?_|refine zz ?_)<;>(conv=>whnf)))
   have HR:aA.aI (fun _=>False) h h':=(aA.aI.trans (b:=fun n=>n=h.next) (kA.mono fun _ _ e=>e.elim) (aA.aI.trans (b:=fun n=>n=h.next) TW (LM.mono fun _ _ e=>e.elim))).mono fun n hn e=>absurd hn (by omega)
   refine Eu (rs:=AF.f53.results) (v:=.bY [.agg [.s p.name,.i .i64 p.uid,.i .i64 p.prio,.i .i64 p.gG.a,.i .i64 p.gG.b,.i .i64 p.gG.c,.sl none 1 (p.aX.map fV),.sl none 2 (p.labels.map bJ),.sl none 3 (p.lR.map bD),.sl none 3 (p.b8.map eO),.s p.dV,.sl none 3 (p.cT.map bD),.i .i64 p.j9,.sl none 3 (p.even.map bD),.s p.node,.i .i64 p.term],.b true]) ?_ (hK _ _ Ev HR)
   exact sV rfl (z7 _ _ _ _ _ _ _) rfl rfl rfl
end
end Go.Eng
