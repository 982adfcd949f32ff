/-
What the closed functions answer.
-/
import Derived.Test.YtmfelikepmmjkaaGreatYRunA
import Derived.Test.YtmfelikepmmjkaaGreatYRunB
import Derived.Test.YtmfelikepmmjkaaGreatYAfOk
import Derived.Test.YtmfelikepmmjkaaGreatYSort1
import Derived.Test.YtmfelikepmmjkaaGreatY48
import Derived.Test.YtmfelikepmmjkaaGreatY29
import Derived.Test.YtmfelikepmmjkaaGreatY22
import Derived.Test.YtmfelikepmmjkaaGreatY21
import Derived.Test.YtmfelikepmmjkaaGreatY04
import Derived.Test.YtmfelikepmmjkaaGreatY18
set_option linter.unusedVariables false
set_option linter.unusedSimpArgs false
set_option maxHeartbeats 16000000
set_option maxRecDepth 20000
namespace Go.Proofs.YtmfelikepmmjkaaGreat
open Go.Eng
theorem orcA_ok:rD Tryz.prog (tB 42 54 139):=by
 intro f args h r h' hr K hK
 unfold tB at hr
 split at hr
 · rename_i hf
   have:=Nat.eq_of_beq_eq_true hf
   subst this
   exact add_ok args h r h' hr K hK
 · split at hr
   · rename_i hf
     have:=Nat.eq_of_beq_eq_true hf
     subst this
     exact sorted_ok args h r h' hr K hK
   · cases hr
theorem known_ok {cs:List Nat} {base:mX} (hb:rD Tryz.prog base) (hc:∀ f∈cs,aB Tryz.prog f [] gZ (fun r _=>r=.b true)):rD Tryz.prog (known cs base):=by
 intro f args h r h' hr K hK
 unfold known at hr
 split at hr
 · rename_i hm
   split at hr
   · cases hr
     exact (hc f (cW.1 hm)).frame rfl fun v h' hv=>by subst hv;exact ⟨rfl,hK⟩
   · cases hr
 · exact hb f args h r h' hr K hK
theorem DL {lW:mX} (ho:rD Tryz.prog lW) {n f:Nat} (h:isTrue (I5 AF.fns.get 285 lW n f [] gZ)=true):aB Tryz.prog f [] gZ (fun r _=>r=.b true):=by
 obtain ⟨h',hx⟩:=IS h
 rw [Ti] at hx
 exact runFn_ok UQ once_ok ho hx rfl
theorem law1_begun:aB Tryz.prog 328 [] gZ (fun r _=>r=.b true):=DL orcA_ok AF.adT
theorem orcB_ok:rD Tryz.prog (known [328] (tB 42 54 139)):=known_ok orcA_ok fun f hf=>by
 simp at hf;subst hf;exact law1_begun
theorem law6_begun:aB Tryz.prog 186 [] gZ (fun r _=>r=.b true):=DL orcB_ok AF.adU
theorem orcC_ok:rD Tryz.prog (known [328,186] (tB 42 54 139)):=known_ok orcA_ok fun f hf=>by
 simp at hf
 rcases hf with rfl|rfl
 · exact law1_begun
 · exact law6_begun
end Go.Proofs.YtmfelikepmmjkaaGreat
namespace Go.Eng
open Go
section
variable {P:Program} (hG:bN P AF.fns.get) (hH:BW P 104 AF.Br=true)
include hG hH
theorem planStale_ok (fD:eD P 285) (hA:EE P) (hSo:Ax P) (hb:aB P 5 [] gZ (fun r _=>r=.b true)) (kJ:qC P) (hS:Al P 81 61)
 (s:eG) (p:aO) (iR x:Int) (hwh:-9223372036854775808<=iR/\iR<=9223372036854775807) (hs:s.arg) (hp:p.fit/\p.Af):aB P 4 [lT s,.agg (aJ p),.i .i64 iR,.i .u8 x] gZ (fun r _=>r=.b true):=by
 have vO:=hs.term
 have T3:=cutX_ok hG s hs.nodes hs.aF (fun n hn=>⟨(hs.node n hn).1.DV,(hs.node n hn).2⟩) (fun q hq=>⟨(hs.uT q hq).1.DV,(hs.uT q hq).2⟩)
 obtain ⟨p0,E6⟩:∃ p0:aO,p0={ p with node:=[],term:=0,name:=qJ }:=⟨_,rfl⟩
 have Ug:p0.fit/\p0.Af:=by
  rw [E6]
  exact ⟨⟨⟨hp.1.aX,hp.1.labels,hp.1.b8,hp.1.lR,hp.1.cT,hp.1.even⟩,hp.1.gG⟩,⟨(show bP qJ by unfold bP qJ;decide),hp.2.dV,(show bP ([]:aU) by unfold bP;decide),hp.2.labels,hp.2.lR,hp.2.b8,hp.2.cT,hp.2.even⟩⟩
 have OF:=rpodB_ok hG p0 Ug.1.DV Ug.2
 have Vl:=OF
 rw [E6] at Vl
 refine jG (hG _ AF.f4 rfl) rfl ?_
 ((conv=>whnf);repeat ((first|refine zz ?_)<;>(conv=>whnf)))
 refine ⟨hb.frame rfl fun v h' hv=>?_⟩
 subst hv
 refine ⟨rfl,?_⟩
 ((conv=>whnf);repeat ((first|refine zz ?_)<;>(conv=>whnf)))
 refine cY.mk (Pure.state T3 rfl fun w hw=>?_)
 ((conv=>whnf);repeat ((first|refine cA (Pure.any Vl rfl) ?_|refine zz ?_)<;>(conv=>whnf)))
 intro r hr
 cases r
 · ((conv=>whnf);repeat ((first|refine zz ?_)<;>(conv=>whnf)))
 rw [<-E6] at hr
 have hz:Zz p0:=⟨hr rfl,by rw [E6],by rw [E6],by rw [E6]⟩
 have TK:=hw.of.Wv
 have Kl:=JW (s:=w) (p:=p0) hw.rO
 have BP:=rwithX_ok hG w p0 (by omega)
 rw [E6] at BP
 have zB:=fun (h:aA) K hK=>Xf (K:=K) (h:=h) hG hK
 ((conv=>whnf);repeat ((first|refine cA (Pure.go BP rfl) ?_|refine cA (zB _ _) ?_|refine zz ?_)<;>(conv=>whnf)))
 rw [<-E6]
 obtain ⟨s2,Sy⟩:∃ s2,s2=sU w p0:=⟨_,rfl⟩
 rw [<-Sy] at Kl ⊢
 have LQ:∀ q∈s2.aF,j0 q=true:=fun q hq=>by
  rcases (Kl.mem q).1 hq with rfl|⟨h1,_⟩
  · exact hz.b
  · exact hw.pb q h1
 have JX:∀ n∈s2.nodes,HP n=true:=by rw [Kl.nodes];exact hw.nb
 have H6:∀ q∈s2.aF,q.term<=9223372036854775807:=fun q hq=>by
  rcases (Kl.mem q).1 hq with rfl|⟨h1,_⟩
  · rw [hz.term];decide
  · exact vO q (hw.of.Ww q h1)
 have XD:s2.nodes.length<=6:=by rw [Kl.nodes];exact hw.of.nodes.len
 have Yf:s2.aF.length<=17:=by have:=Kl.len;omega
 have Xs:s2.nodes.Pairwise fun a b=>cC a.name b.name:=by rw [Kl.nodes];exact hw.of.nodes.so
 intro h1 a xJ
 have iD:=fun K hK=>Xq (K:=K) hG hH hA xJ (by decide) iS (by decide) hK
 have ld0:jW (jJ [] ⟨iS,0+1,[]⟩) (J5 [] ((qS s2).take 0)):=jW.nil.put ⟨iS,0+1,[]⟩
 obtain ⟨E,hE⟩:∃ E,E=qS s2:=⟨_,rfl⟩
 have hEl:E.length<=23:=by rw [hE];unfold qS;rw [List.length_append,vG,AB];omega
 have hEr:Xk E:=by rw [hE];exact Xm Xs Kl.rO
 have hEk:∀ e∈E,(1<=e.key.length/\e.key.length<=20)/\e.val.length<=4000:=fun e he=>by
  rw [hE] at he
  rcases List.mem_append.1 he with he|he
  · have h7:(e.key,e.val)∈(tJ 0 s2.nodes).map fun e=>(e.key,e.val):=List.mem_map.2 ⟨e,he,rfl⟩
    rw [CU] at h7
    obtain ⟨n,h8,h9⟩:=List.mem_map.1 h7
    have EZ:=J8 (AJ (JX n h8))
    injection h9 with HK Ei
    rw [<-HK,<-Ei]
    exact ⟨by unfold eF;simp;omega,J6 (JX n h8)⟩
  · have h7:(e.key,e.val)∈(sZ 0 s2.aF).map fun e=>(e.key,e.val):=List.mem_map.2 ⟨e,he,rfl⟩
    rw [CV] at h7
    obtain ⟨n,h8,h9⟩:=List.mem_map.1 h7
    have EZ:=J8 (rV (LQ n h8))
    injection h9 with HK Ei
    rw [<-HK,<-Ei]
    exact ⟨by unfold b7;simp;omega,EP (LQ n h8)⟩
 have agS:E≠[]:=fun h7=>by
  have h8:p0∈s2.aF:=(Kl.mem p0).2 (.inl rfl)
  have h9:(qS s2).length=s2.nodes.length+s2.aF.length:=by unfold qS;rw [List.length_append,vG,AB]
  rw [<-hE,h7] at h9
  have:=List.length_pos_of_mem h8
  simp at h9;omega
 rw [<-hE] at ld0
 ((conv=>whnf);repeat ((first|refine cA (iD _) ?_|refine zz ?_)<;>(conv=>whnf)))
 intro h2 aa9
 have abA:=fun K hK=>entries_at (K:=K) hG fD (h:=h2) s2 (by omega) (by omega) JX LQ H6 hK
 ((conv=>whnf);repeat ((first|refine cA (abA _) ?_|refine zz ?_)<;>(conv=>whnf)))
 intro lv h3 Ss k3
 rw [<-hE] at Ss
 have hs3:=aa9.eK k3
 rcases Ss with ⟨_,h⟩|rfl
 · exact absurd h agS
 have hEm:(E.map lN).length=E.length:=List.length_map _
 ((conv=>whnf);repeat ((first|refine zz ?_)<;>(conv=>whnf)))
 refine fQ.by (fun q fr st=>∃ (i:Nat) (hh lo:aA) (D:List dJ) (T:List (aU×Int)),i<=E.length/\q=E.length - i/\SS hh a (1+i) D T/\jW D (J5 [] (E.take i))/\1<lo.next/\lo.get 0=some (.cs [.sl none 6 (s2.nodes.map aS),.sl none 16 (s2.aF.map aJ)])/\lo.get 1=some (.cs (aJ p0))/\
  Fr.le [(47,.i .i64 i),(46,.i .i64 (E.map lN).length),(45,.sl none 3 (E.map lN)),(10,.p (.g a) 0),(5,.p (.l 1) 0),(4,.p (.l 0) 0),(2,.i .i64 iR),(3,.i .u8 x)] fr/\st=⟨hh,lo⟩)
  E.length ⟨0,h3,_,_,_,Nat.zero_le _,rfl,(show SS h3 a (1+((0:Nat):Int)) _ _ from hs3),ld0,(by show 1<3;decide),rfl,(by rw [E6];rfl),dK,rfl⟩ ?_
 clear xJ aa9 hs3 iD abA
 rintro q fr st ⟨i,hh,lo,D,T,hi,rfl,Sl,gI,l1,g0,g1,hle,rfl⟩
 refine ⟨_,hle,fun R hR=>?_⟩
 by_cases eB:i<E.length
 · have he:=List.getElem?_eq_getElem eB
   have hek:=hEk _ (List.getElem_mem eB)
   generalize E[i]=e at he hek
   have iD:=fun K hK=>LY (K:=K) hG hH hA Sl (by omega) e.key e.val hek.1 hek.2 hK
   have agU:=Ue gI hEr he
   have gk:∀ (o o':Obj) (j:Nat) (x:Obj),j<lo.next->lo.get j=some x->(((lo.push o).set lo.next o').push .spare).get j=some x:=fun o o' j x hj hx=>aA.gp (by show j≠lo.next+1;omega) (aA.gs (by omega) (aA.gp (by omega) hx))
   ((conv=>whnf);repeat ((first|refine aH.dt (show (i:Int)<(E.map lN).length by omega) ?_|refine aK.ix (by omega) (by omega) ?_|refine cA (iD _) ?_|refine ye (aG (f:=lN) (by omega) he) ?_|refine ye (aA.aC _ _) ?_|refine ye (aA.aD (aA.aC _ _)) ?_|refine zz ?_)<;>(conv=>whnf)))
   intro h5 hs5
   ((conv=>whnf);repeat ((first|refine aQ.gS (by omega) (by omega) ?_|refine zz ?_)<;>(conv=>whnf)))
   refine hR (E.length - (i+1)) _ _ (by omega) ⟨i+1,h5,_,_,_,by omega,rfl,(by rw [show (1:Int)+((i+1:Nat):Int)=1+i+1 by omega];exact hs5),(by rw [show (1:Int)+i+1=2+i by omega];exact agU),Nat.lt_succ_of_lt (Nat.lt_succ_of_lt l1),gk _ _ 0 _ (by omega) g0,gk _ _ 1 _ (by omega) g1,dK,rfl⟩
 obtain rfl:i=E.length:=by omega
 clear hR eB hi k3
 rw [List.take_length,hE] at gI
 obtain ⟨f,vL,hf1,Tb⟩:=Xl gI.rO
 rw [vL] at gI
 have U3:s2.ok:=⟨by unfold bP;omega,by unfold bP;omega,fun n hn=>(hs.node n (hw.of.nodes.sub n (by rw [<-Kl.nodes];exact hn)).1).1.DV,fun q hq=>by
  rcases (Kl.mem q).1 hq with rfl|⟨h1,_⟩
  · exact Ug.1
  · exact (hs.uT q (hw.of.Ww q h1)).1,by omega⟩
 have y5:Small s2:=fun n hn=>by
  rw [Kl.nodes] at hn
  have:=hw.of.nodes.sub n hn
  omega
 have lV:∀ q∈s2.aF,iP q:=fun q hq=>(AA (LQ q hq)).room
 have Xo:s2.aF.Pairwise fun a b=>a.name≠b.name:=Kl.rO.imp qI
 obtain ⟨o,ho,Ct⟩:=R6 hG kJ hS s2 p0 false U3 Ug.1 y5 XD (by omega) lV Xo Xs
 obtain ⟨Rv,hRv⟩:∃ Rv:Int,Rv=1+(E.length:Int):=⟨_,rfl⟩
 rw [<-hRv] at Sl
 have hDl:D.length<=100000:=by rw [gI.len,<-vL];unfold J5;rw [List.length_cons,<-hE,show (O5 2 E).length=E.length by have:=congrArg List.length (EO E 2);simpa using this];omega
 have hli:=fun (h:aA) (hx:SS h a Rv D T) (K:V->aA->Prop) hK=>AH (K:=K) hG hA hSo hx hDl gI hK
 have wN:=fun (h:aA) (hx:SS h a Rv D T) (K:V->aA->Prop) hK=>Xg (K:=K) hG hx hK
 have hLl:(qU f [] s2).length<=100000:=by rw [<-gI.len];exact hDl
 have nY:=fun (h:aA) (uT node:aU) (h1:uT.length<=12) (h2:bK uT=false) (h3:node.length<=12) h4 (vs:List aU) (t:Int) (K:V->aA->Prop) hK=>OI (K:=K) (h:=h) hG fD hLl Rv uT node h1 h2 h3 h4 vs t hK
 rw [hz.name] at Ct
 have c0:∀ j,j<=lo.next->j<lo.next+1:=fun j h=>Nat.lt_succ_of_le h
 have b1:=fun o o'=>Nc (A:=lo) o o'
 have b2:=fun o o' o2 X5=>Xp (A:=Hs lo o o') o2 X5 (b1 o o') (Nat.lt_succ_self _)
 have b2':=fun o o' o2 X5=>Nc (A:=Hs lo o o') o2 X5
 have b1p:=fun o o' o2=>yW (A:=Hs lo o o') o2 (b1 o o') (Nat.lt_succ_self _)
 have b2p:=fun o o' o2 X5 o3=>yW (A:=Hs (Hs lo o o') o2 X5) o3 (b2 o o' o2 X5) (Nat.lt_succ_of_lt (Nat.lt_succ_self _))
 cases o with
 |none=>
  ((conv=>whnf);repeat ((first|refine aH.df (show ¬((E.length:Nat):Int)<(E.map lN).length by omega) ?_|refine cA (Pure.go Ct rfl) ?_|refine cA (hli _ Sl _) ?_|refine ye (g0) ?_|refine ye (g1) ?_|refine ye (aA.aC _ _) ?_|refine ye (b1 _ _) ?_|refine zz ?_)<;>(conv=>whnf)))
  intro h6 hs6
  have Sv:=fun K hK=>nY h6 [] [] (by decide) rfl (by decide) (fun h=>by cases h) [] 1 K hK
  ((conv=>whnf);repeat ((first|refine cA (wN _ hs6 _) ?_|refine cA (Sv _) ?_|refine ye (b1 _ _) ?_|refine ye (b1p _ _ _) ?_|refine zz ?_)<;>(conv=>whnf)))
  intro h7 k7
  ((conv=>whnf);repeat ((first|refine ye (b1p _ _ _) ?_|refine ye (aA.aC _ _) ?_|refine zz ?_)<;>(conv=>whnf)))
  rfl
 |some d=>
  obtain ⟨nd,vs⟩:=d
  obtain ⟨pR,agW,H3,agX⟩:=ho.f nd vs rfl
  obtain ⟨n0,hn0,Md⟩:∃ n0∈s2.nodes,n0.name=nd:=by
   have h7:=pR
   unfold hY at h7
   cases h8:(cH s2 vs).nodes.find? (fun n=>n.name==nd) with
   |none=>rw [h8] at h7;cases h7
   |some n0=>exact ⟨n0,List.mem_of_find?_eq_some h8,by simpa using List.find?_some h8⟩
  have Xt:bK nd=true:=by rw [<-Md];exact AJ (JX n0 hn0)
  have Vm:=J8 Xt
  have abB:p0∈s2.aF:=(Kl.mem p0).2 (.inl rfl)
  obtain ⟨X,hX⟩:∃ X,X=vs.map fun v=>((eM (qU f [] s2) (b7 v)).getD ⟨[],0,[]⟩):=⟨_,rfl⟩
  have hP:Cp f [] s2 Rv p0 n0 vs X:=⟨Xs,Kl.rO,JX,LQ,abB,hn0,fun v hv=>by
   obtain ⟨q,h7,h8,h9⟩:=agX v hv
   refine ⟨q,h7,h8,fun e=>?_⟩
   rw [OL Kl.rO h7 abB e] at h9
   omega,agW,by omega,hX,hf1,fun k=>by have:=Tb k;rw [<-hE] at this;omega⟩
  have Xu:j0 (nP p0 nd)=true:=by
   have h7:=hz.b
   unfold j0 Gj at h7 ⊢
   simp only [Bool.and_eq_true] at h7 ⊢
   obtain ⟨a1,a2,a3,a4,a5,a6,a7,a8,a9,a10,a11,_⟩:=h7
   refine ⟨a1,a2,a3,a4,a5,a6,a7,a8,a9,a10,a11,?_⟩
   show ((bK nd&&decide ((0:Int)<1))||_)=true
   rw [Xt];rfl
  have agY:=EG hz.b
  have XB:=hP.aa5
  have FL:=hP.aa6
  have hzB:bK qJ=true:=by decide
  rw [hz.name] at XB
  rw [Md] at FL
  have MT:=fun (h:aA) (K:V->aA->Prop) hK=>ptxn_at (K:=K) (h:=h) hG fD hLl Rv qJ nd hzB Xt XB FL p0 agY hz.b (by rw [hz.term];decide) rfl hz.node vs 1 (by decide) (by intro e;rw [e] at Vm;simp at Vm) (nP p0 nd) rfl Xu (EG Xu) X (by rw [hX,List.length_map]) (by omega) (fun i v x h7 h8=>hP.find i v x h7 h8) hK
  ((conv=>whnf);repeat ((first|refine aH.df (show ¬((E.length:Nat):Int)<(E.map lN).length by omega) ?_|refine cA (Pure.go Ct rfl) ?_|refine cA (hli _ Sl _) ?_|refine ye (g0) ?_|refine ye (g1) ?_|refine ye (aA.aC _ _) ?_|refine ye (b1 _ _) ?_|refine zz ?_)<;>(conv=>whnf)))
  intro h6 hs6
  ((conv=>whnf);repeat ((first|refine cA (wN _ hs6 _) ?_|refine cA (MT h6 _) ?_|refine ye (b1 _ _) ?_|refine ye (b1p _ _ _) ?_|refine zz ?_)<;>(conv=>whnf)))
  intro h7 k7
  have hs7:=hs6.eK k7
  ((conv=>whnf);repeat ((first|refine cA (hli _ hs7 _) ?_|refine ye (b1p _ _ _) ?_|refine ye (aA.aC _ _) ?_|refine ye (b2 _ _ _ _) ?_|refine zz ?_)<;>(conv=>whnf)))
  intro h8 hs8
  have hLm:((qU f [] s2).map lN).length=(qU f [] s2).length:=List.length_map _
  have hL1:1<=(qU f [] s2).length:=by unfold qU;simp
  have hL2:(qU f [] s2).length<=100:=by rw [<-gI.len];rw [gI.len];unfold qU;rw [List.length_cons,List.length_append,List.length_map,List.length_map];omega
  have GI:-(((qU f [] s2).map lN).length:Int)<iR.tmod ((qU f [] s2).map lN).length/\iR.tmod ((qU f [] s2).map lN).length<((qU f [] s2).map lN).length:=by
   rw [hLm]
   have h1:=Int.tmod_lt_of_pos iR (show (0:Int)<((qU f [] s2).length:Nat) by omega)
   have h2:=Int.lt_tmod_of_pos iR (show (0:Int)<((qU f [] s2).length:Nat) by omega)
   omega
  obtain ⟨j,hj,Fv⟩:∃ j:Nat,(iR.tmod ((qU f [] s2).map lN).length+((qU f [] s2).map lN).length).tmod ((qU f [] s2).map lN).length=j/\j<(qU f [] s2).length:=by
   obtain ⟨q,hq⟩:∃ q:Nat,iR.tmod ((qU f [] s2).map lN).length+((qU f [] s2).map lN).length=q:=⟨(iR.tmod ((qU f [] s2).map lN).length+((qU f [] s2).map lN).length).toNat,by omega⟩
   refine ⟨q%(qU f [] s2).length,?_,Nat.mod_lt _ (by omega)⟩
   rw [hq,hLm];rfl
  have he:=List.getElem?_eq_getElem Fv
  have BA:=List.getElem_mem Fv
  generalize (qU f [] s2)[j]=e at he BA
  ((conv=>whnf);repeat ((first|refine aQ.gS (by omega) (by omega) ?_|refine anM hj (by omega) (by omega) ?_|refine aK.ix (by omega) (by omega) ?_|refine ye (aG (f:=lN) (by omega) he) ?_|refine zz ?_)<;>(conv=>whnf)))
  have OA:∀ g∈nB Rv 1 ⟨b7 qJ,f (b7 qJ),bW p0⟩ ⟨eF nd,f (eF nd),dQ n0⟩,g.key.length<=9223372036854775807:=fun g hg=>by
   have hk:(eF nd).length<=20:=by unfold eF;simp;omega
   simp only [nB,List.mem_cons,List.not_mem_nil,or_false] at hg
   rcases hg with rfl|rfl|rfl|rfl|rfl
   · show (1:Nat)<=_;decide
   · show (4:Nat)<=_;decide
   · show (eF nd).length<=_;omega
   · show (2:Nat)<=_;decide
   · show (2:Nat)<=_;decide
  have hwk:∀ w∈rU ⟨b7 qJ,f (b7 qJ),bW p0⟩ (nP p0 nd)::X.map nO,RJ w/\w.val.length<=100000:=fun w hx=>by
   have hm:=hP.may Xu
   rw [hz.name,Md] at hm
   unfold Bq at hm
   simp only [Bool.and_eq_true] at hm
   have h7:=Bn hm.2.2.2.2 w hx
   have h8:=h7.key
   have h9:=h7.val
   exact ⟨⟨by omega,by omega⟩,by omega⟩
  have Bf:(rU ⟨b7 qJ,f (b7 qJ),bW p0⟩ (nP p0 nd)::X.map nO).length<=1000:=by rw [hX];simp;omega
  have yY:(1<=e.key.length/\e.key.length<=20)/\(e.key=iS\/s6 e.key [112,47]=true\/s6 e.key [110,47]=true):=by
   rcases HV.1 BA with rfl|⟨n,h7,rfl⟩|⟨q,h7,rfl⟩
   · exact ⟨by show 1<=iS.length/\iS.length<=20;decide,.inl rfl⟩
   · have:=J8 (AJ (JX n h7))
     exact ⟨by show 1<=(eF n.name).length/\(eF n.name).length<=20;unfold eF;simp;omega,.inr (.inr (by show s6 (eF n.name) _=true;unfold s6 eF;simp))⟩
   · have:=J8 (rV (LQ q h7))
     exact ⟨by show 1<=(b7 q.name).length/\(b7 q.name).length<=20;unfold b7;simp;omega,.inr (.inl (by show s6 (b7 q.name) _=true;unfold s6 b7;simp))⟩
  have Nf:=fun (k:aU) (hk:1<=k.length/\k.length<=20) (K:V->aA->Prop) hK=>LY (K:=K) hG hH hA hs8 (by omega) k [x] hk (by simp) hK
  have ajB:D.length<=100:=by rw [gI.len];exact hL2
  have q2:∀ {o p o2 p2 o3 o4:Obj},(((Hs (Hs lo o p) o2 p2).push o3).push o4).get (lo.next+1)=some p2:=fun {o p o2 p2 o3 o4}=>yW o4 (yW o3 (b2' o p o2 p2) (Nat.lt_succ_self _)) (Nat.lt_succ_of_lt (Nat.lt_succ_self _))
  have q5:∀ {o p o2 p2 o3 o4 o5 o6 o7:Obj},(((((((Hs (Hs lo o p) o2 p2).push o3).push o4).push o5).push o6).push o7).get (lo.next+1))=some p2:=fun {o p o2 p2 o3 o4 o5 o6 o7}=>
   yW o7 (yW o6 (yW o5 q2 (by show lo.next+1<lo.next+1+1+1+1;omega)) (by show lo.next+1<lo.next+1+1+1+1+1;omega)) (by show lo.next+1<lo.next+1+1+1+1+1+1;omega)
  obtain ⟨m,hm,hm3⟩:∃ m:Nat,((iR.tdiv 3).tmod 3+3).tmod 3=m/\m<3:=by
   have h1:=Int.tmod_lt_of_pos (iR.tdiv 3) (show (0:Int)<3 by decide)
   have h2:=Int.lt_tmod_of_pos (iR.tdiv 3) (show (0:Int)<3 by decide)
   obtain ⟨q,hq⟩:∃ q:Nat,(iR.tdiv 3).tmod 3+3=q:=⟨((iR.tdiv 3).tmod 3+3).toNat,by omega⟩
   refine ⟨q%3,?_,Nat.mod_lt _ (by omega)⟩
   rw [hq];rfl
  have Ik:=Int.tmod_lt_of_pos (iR.tdiv 3) (show (0:Int)<3 by decide)
  have hd4:=Int.lt_tmod_of_pos (iR.tdiv 3) (show (0:Int)<3 by decide)
  have hd5:-9223372036854775808<=iR.tdiv 3/\iR.tdiv 3<=9223372036854775807:=by
   have h1:=Int.tmod_lt_of_pos iR (show (0:Int)<3 by decide)
   have h2:=Int.lt_tmod_of_pos iR (show (0:Int)<3 by decide)
   have:=Int.mul_tdiv_add_tmod iR 3
   omega
  have qO:∀ k:aU,(k=[112,47,110,101,119]\/k=[110,47,110,101,119]\/k=iS)->(1<=k.length/\k.length<=20)/\(k=iS\/s6 k [112,47]=true\/s6 k [110,47]=true):=fun k hk=>by
   rcases hk with rfl|rfl|rfl
   · exact ⟨by decide,.inr (.inl (by decide))⟩
   · exact ⟨by decide,.inr (.inr (by decide))⟩
   · exact ⟨by decide,.inl rfl⟩
  by_cases h3:iR.tmod 3=0
  · have hm4:m=0\/m=1\/m=2:=by omega
    rcases hm4 with rfl|rfl|rfl
    · have SA:=qO [112,47,110,101,119] (.inl rfl)
      ((conv=>whnf);repeat ((first|refine aH.dt h3 ?_|refine aQ.gS (by omega) (by omega) ?_|refine zz ?_)<;>(conv=>whnf)))
      rw [hm]
      ((conv=>whnf);repeat ((first|refine cA (Nf _ SA.1 _) ?_|refine zz ?_)<;>(conv=>whnf)))
      intro h9 Xv
      obtain ⟨L2,Ij⟩:∃ L2,jW (jJ D ⟨[112,47,110,101,119],Rv+1,[x]⟩) L2:=⟨_,gI.put ⟨[112,47,110,101,119],Rv+1,[x]⟩⟩
      have rW:L2.length<=100000:=by rw [<-Ij.len];have:=vE (⟨[112,47,110,101,119],Rv+1,[x]⟩:dJ) D;omega
      have ES:=fun (h:aA) (hx:SS h a (Rv+1) (jJ D ⟨[112,47,110,101,119],Rv+1,[x]⟩) (iQ T (Rv+1) [⟨[112,47,110,101,119],[x],false⟩])) (K:V->aA->Prop) hK=>AH (K:=K) hG hA hSo hx (by rw [Ij.len];exact rW) Ij hK
      have E3:=hP.Nb (D:=D) (T:=T) (q:=nP p0 nd) Xu [112,47,110,101,119] [x] SA.2
      rw [hz.name,Md] at E3
      ((conv=>whnf);repeat ((first|refine cA (ES _ Xv _) ?_|refine zz ?_)<;>(conv=>whnf)))
      intro EZ LZ
      have R7:=fun K Xw hK=>EM (K:=K) hG hH hA LZ (by omega) (nB Rv 1 ⟨b7 qJ,f (b7 qJ),bW p0⟩ ⟨eF nd,f (eF nd),dQ n0⟩) OA (show 5<=100 by decide) (rU ⟨b7 qJ,f (b7 qJ),bW p0⟩ (nP p0 nd)::X.map nO) hwk Bf Xw hK
      rw [show tK (jJ D ⟨[112,47,110,101,119],Rv+1,[x]⟩) (iQ T (Rv+1) [⟨[112,47,110,101,119],[x],false⟩]) (nB Rv 1 ⟨b7 qJ,f (b7 qJ),bW p0⟩ ⟨eF nd,f (eF nd),dQ n0⟩) (rU ⟨b7 qJ,f (b7 qJ),bW p0⟩ (nP p0 nd)::X.map nO)=6 from E3] at R7
      have L0:=fun K hK=>R7 K (fun _=>hK) (fun h=>absurd h (by decide))
      ((conv=>whnf);repeat ((first|refine cA (L0 _) ?_|refine ye (q2) ?_|refine ye (q5) ?_|refine zz ?_)<;>(conv=>whnf)))
      intro HK L3
      ((conv=>whnf);repeat ((first|refine cA (ES _ L3 _) ?_|refine zz ?_)<;>(conv=>whnf)))
      intro Ei Xx
      have heq:=fun K hK=>eqEns_at (K:=K) (h:=Ei) hG (.inr rfl) (.inr rfl) rW hK
      ((conv=>whnf);repeat ((first|refine cA (heq _) ?_|refine zz ?_)<;>(conv=>whnf)))
    · have SA:=qO [110,47,110,101,119] (.inr (.inl rfl))
      ((conv=>whnf);repeat ((first|refine aH.dt h3 ?_|refine aQ.gS (by omega) (by omega) ?_|refine zz ?_)<;>(conv=>whnf)))
      rw [hm]
      ((conv=>whnf);repeat ((first|refine cA (Nf _ SA.1 _) ?_|refine zz ?_)<;>(conv=>whnf)))
      intro h9 Xv
      obtain ⟨L2,Ij⟩:∃ L2,jW (jJ D ⟨[110,47,110,101,119],Rv+1,[x]⟩) L2:=⟨_,gI.put ⟨[110,47,110,101,119],Rv+1,[x]⟩⟩
      have rW:L2.length<=100000:=by rw [<-Ij.len];have:=vE (⟨[110,47,110,101,119],Rv+1,[x]⟩:dJ) D;omega
      have ES:=fun (h:aA) (hx:SS h a (Rv+1) (jJ D ⟨[110,47,110,101,119],Rv+1,[x]⟩) (iQ T (Rv+1) [⟨[110,47,110,101,119],[x],false⟩])) (K:V->aA->Prop) hK=>AH (K:=K) hG hA hSo hx (by rw [Ij.len];exact rW) Ij hK
      have E3:=hP.Nb (D:=D) (T:=T) (q:=nP p0 nd) Xu [110,47,110,101,119] [x] SA.2
      rw [hz.name,Md] at E3
      ((conv=>whnf);repeat ((first|refine cA (ES _ Xv _) ?_|refine zz ?_)<;>(conv=>whnf)))
      intro EZ LZ
      have R7:=fun K Xw hK=>EM (K:=K) hG hH hA LZ (by omega) (nB Rv 1 ⟨b7 qJ,f (b7 qJ),bW p0⟩ ⟨eF nd,f (eF nd),dQ n0⟩) OA (show 5<=100 by decide) (rU ⟨b7 qJ,f (b7 qJ),bW p0⟩ (nP p0 nd)::X.map nO) hwk Bf Xw hK
      rw [show tK (jJ D ⟨[110,47,110,101,119],Rv+1,[x]⟩) (iQ T (Rv+1) [⟨[110,47,110,101,119],[x],false⟩]) (nB Rv 1 ⟨b7 qJ,f (b7 qJ),bW p0⟩ ⟨eF nd,f (eF nd),dQ n0⟩) (rU ⟨b7 qJ,f (b7 qJ),bW p0⟩ (nP p0 nd)::X.map nO)=6 from E3] at R7
      have L0:=fun K hK=>R7 K (fun _=>hK) (fun h=>absurd h (by decide))
      ((conv=>whnf);repeat ((first|refine cA (L0 _) ?_|refine ye (q2) ?_|refine ye (q5) ?_|refine zz ?_)<;>(conv=>whnf)))
      intro HK L3
      ((conv=>whnf);repeat ((first|refine cA (ES _ L3 _) ?_|refine zz ?_)<;>(conv=>whnf)))
      intro Ei Xx
      have heq:=fun K hK=>eqEns_at (K:=K) (h:=Ei) hG (.inr rfl) (.inr rfl) rW hK
      ((conv=>whnf);repeat ((first|refine cA (heq _) ?_|refine zz ?_)<;>(conv=>whnf)))
    · have SA:=qO iS (.inr (.inr rfl))
      ((conv=>whnf);repeat ((first|refine aH.dt h3 ?_|refine aQ.gS (by omega) (by omega) ?_|refine zz ?_)<;>(conv=>whnf)))
      rw [hm]
      ((conv=>whnf);repeat ((first|refine cA (Nf _ SA.1 _) ?_|refine zz ?_)<;>(conv=>whnf)))
      intro h9 Xv
      obtain ⟨L2,Ij⟩:∃ L2,jW (jJ D ⟨iS,Rv+1,[x]⟩) L2:=⟨_,gI.put ⟨iS,Rv+1,[x]⟩⟩
      have rW:L2.length<=100000:=by rw [<-Ij.len];have:=vE (⟨iS,Rv+1,[x]⟩:dJ) D;omega
      have ES:=fun (h:aA) (hx:SS h a (Rv+1) (jJ D ⟨iS,Rv+1,[x]⟩) (iQ T (Rv+1) [⟨iS,[x],false⟩])) (K:V->aA->Prop) hK=>AH (K:=K) hG hA hSo hx (by rw [Ij.len];exact rW) Ij hK
      have E3:=hP.Nb (D:=D) (T:=T) (q:=nP p0 nd) Xu iS [x] SA.2
      rw [hz.name,Md] at E3
      ((conv=>whnf);repeat ((first|refine cA (ES _ Xv _) ?_|refine zz ?_)<;>(conv=>whnf)))
      intro EZ LZ
      have R7:=fun K Xw hK=>EM (K:=K) hG hH hA LZ (by omega) (nB Rv 1 ⟨b7 qJ,f (b7 qJ),bW p0⟩ ⟨eF nd,f (eF nd),dQ n0⟩) OA (show 5<=100 by decide) (rU ⟨b7 qJ,f (b7 qJ),bW p0⟩ (nP p0 nd)::X.map nO) hwk Bf Xw hK
      rw [show tK (jJ D ⟨iS,Rv+1,[x]⟩) (iQ T (Rv+1) [⟨iS,[x],false⟩]) (nB Rv 1 ⟨b7 qJ,f (b7 qJ),bW p0⟩ ⟨eF nd,f (eF nd),dQ n0⟩) (rU ⟨b7 qJ,f (b7 qJ),bW p0⟩ (nP p0 nd)::X.map nO)=6 from E3] at R7
      have L0:=fun K hK=>R7 K (fun _=>hK) (fun h=>absurd h (by decide))
      ((conv=>whnf);repeat ((first|refine cA (L0 _) ?_|refine ye (q2) ?_|refine ye (q5) ?_|refine zz ?_)<;>(conv=>whnf)))
      intro HK L3
      ((conv=>whnf);repeat ((first|refine cA (ES _ L3 _) ?_|refine zz ?_)<;>(conv=>whnf)))
      intro Ei Xx
      have heq:=fun K hK=>eqEns_at (K:=K) (h:=Ei) hG (.inr rfl) (.inr rfl) rW hK
      ((conv=>whnf);repeat ((first|refine cA (heq _) ?_|refine zz ?_)<;>(conv=>whnf)))
  · have SA:=yY
    ((conv=>whnf);repeat ((first|refine aH.df h3 ?_|refine cA (Nf e.key yY.1 _) ?_|refine zz ?_)<;>(conv=>whnf)))
    intro h9 Xv
    obtain ⟨L2,Ij⟩:∃ L2,jW (jJ D ⟨e.key,Rv+1,[x]⟩) L2:=⟨_,gI.put ⟨e.key,Rv+1,[x]⟩⟩
    have rW:L2.length<=100000:=by rw [<-Ij.len];have:=vE (⟨e.key,Rv+1,[x]⟩:dJ) D;omega
    have ES:=fun (h:aA) (hx:SS h a (Rv+1) (jJ D ⟨e.key,Rv+1,[x]⟩) (iQ T (Rv+1) [⟨e.key,[x],false⟩])) (K:V->aA->Prop) hK=>AH (K:=K) hG hA hSo hx (by rw [Ij.len];exact rW) Ij hK
    have E3:=hP.Nb (D:=D) (T:=T) (q:=nP p0 nd) Xu e.key [x] SA.2
    rw [hz.name,Md] at E3
    ((conv=>whnf);repeat ((first|refine cA (ES _ Xv _) ?_|refine zz ?_)<;>(conv=>whnf)))
    intro EZ LZ
    have R7:=fun K Xw hK=>EM (K:=K) hG hH hA LZ (by omega) (nB Rv 1 ⟨b7 qJ,f (b7 qJ),bW p0⟩ ⟨eF nd,f (eF nd),dQ n0⟩) OA (show 5<=100 by decide) (rU ⟨b7 qJ,f (b7 qJ),bW p0⟩ (nP p0 nd)::X.map nO) hwk Bf Xw hK
    rw [show tK (jJ D ⟨e.key,Rv+1,[x]⟩) (iQ T (Rv+1) [⟨e.key,[x],false⟩]) (nB Rv 1 ⟨b7 qJ,f (b7 qJ),bW p0⟩ ⟨eF nd,f (eF nd),dQ n0⟩) (rU ⟨b7 qJ,f (b7 qJ),bW p0⟩ (nP p0 nd)::X.map nO)=6 from E3] at R7
    have L0:=fun K hK=>R7 K (fun _=>hK) (fun h=>absurd h (by decide))
    ((conv=>whnf);repeat ((first|refine cA (L0 _) ?_|refine ye (q2) ?_|refine ye (q5) ?_|refine zz ?_)<;>(conv=>whnf)))
    intro HK L3
    ((conv=>whnf);repeat ((first|refine cA (ES _ L3 _) ?_|refine zz ?_)<;>(conv=>whnf)))
    intro Ei Xx
    have heq:=fun K hK=>eqEns_at (K:=K) (h:=Ei) hG (.inr rfl) (.inr rfl) rW hK
    ((conv=>whnf);repeat ((first|refine cA (heq _) ?_|refine zz ?_)<;>(conv=>whnf)))
end
open Go
theorem Gz:∀ a:aU,mF a a=0
 |[]=>rfl
 |a::r=>by
  unfold mF
  have h1:Nat.blt a.toNat a.toNat=false:=by rw [Bool.eq_false_iff];exact fun hc=>by have:=(Nat.blt_eq▸hc:a.toNat<a.toNat);omega
  rw [h1]
  exact Gz r
theorem J9:∀ a b:aU,mF b a=- mF a b
 |[],[]=>rfl
 |[],_::_=>rfl
 |_::_,[]=>rfl
 |a::r,b::q=>by
  unfold mF
  cases h1:Nat.blt a.toNat b.toNat<;>cases h2:Nat.blt b.toNat a.toNat
  · exact J9 r q
  · rfl
  · rfl
  · exfalso
    have e1:=(Nat.blt_eq▸h1:a.toNat<b.toNat)
    have e2:=(Nat.blt_eq▸h2:b.toNat<a.toNat)
    omega
theorem CW {a b:aU}:decide (mF a b<0)=Op.bytesLess a b:=by
 cases h:Op.bytesLess a b with
 |true=>
  have:=lG h
  rw [J9 a b] at this
  exact decide_eq_true (by omega)
 |false=>
  refine decide_eq_false fun hc=>?_
  by_cases e:a=b
  · rw [e,Gz] at hc;omega
  · have:=lG (nA h e)
    omega
theorem b9.Xy {E:Env} {st:St} {w w':World} (h:b9 E st w) {os:Array Go.Obj} (hh:w'.heap=w.heap++os) (h1:w'.os=w.os) (h2:w'.output=w.output) (h3:w'.tape=w.tape):b9 E st w'/\Ext E st w E st w':=by
 have hold:∀ b,b<w.heap.size->w'.heap[b]? =w.heap[b]? :=fun b hb=>by rw [hh,Array.getElem?_append_left hb]
 have Nh:∀ b j x,E.I b j=some x->b<w.heap.size:=by
  intro b j x hx
  have:=h.jL b j x hx
  simp only [bI] at this
  rcases Nat.lt_or_ge b w.heap.size with hl|hl
  · exact hl
  · simp [Array.getElem?_eq_none hl] at this
 refine ⟨⟨h.ng,h.nl,h.jM,fun b j x hx=>?_,fun k o hk=>(h.obj k o hk).eK (Env.iJ (.refl E) k) (hold _ (h.lt ⟨o,hk⟩)),h.sep,h.own⟩,
  ⟨.refl E,by rw [hh];simp,fun _ _ _ h=>.inl h,fun _ h _=>h,fun k h _=>.inr ⟨k,h,rfl⟩,fun b hb _=>hold b hb,h1,h2,h3⟩⟩
 have:=h.jL b j x hx
 simp only [bI,hold b (Nh b j x hx)] at*
 exact this
theorem ET:∀ (l:List aU) (j:Nat),(l.map bG).flatten[j]? =(l[j]?).map V.s
 |[],j=>rfl
 |x::r,0=>rfl
 |x::r,j+1=>by
  show (bG x++(r.map bG).flatten)[j+1]? =_
  rw [List.getElem?_append_right (by simp [bG])]
  simp only [bG,List.length_cons,List.length_nil,Nat.zero_add,Nat.add_sub_cancel,List.getElem?_cons_succ]
  exact ET r j
theorem L4 {E:Env} {s:aU} {x:Value} (h:Rel E (.s s) x):x=.string (str s):=by
 cases h with
 |deep hd=>cases hd;rfl
theorem Uh {E:Env} {k:Key} {sz s len:Nat} {x:Value} (h:Rel E (.ms k sz s len) x) (hl:0<len):
 ∃ cap,x=.slice (some ⟨(E.μ k).bL,(E.μ k).base+s*sz,none⟩) len cap/\E.has k/\len<=cap/\(E.μ k).base+(s+cap)*sz=(E.μ k).fin:=by
 cases h with
 |deep hd=>cases hd
 |ms _ _ _ _ a cap hk hc hf hb ha=>
  rcases ha with ha|ha
  · omega
  · subst ha
    exact ⟨cap,rfl,hk,hc,hf⟩
end Go.Eng
