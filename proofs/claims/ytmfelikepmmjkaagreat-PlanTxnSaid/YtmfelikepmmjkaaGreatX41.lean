/-
A state laid into a store; what both laws of plan.Txn share.
-/
import Derived.Test.YtmfelikepmmjkaaGreatX40
import Derived.Test.YtmfelikepmmjkaaGreatX35
import Derived.Test.YtmfelikepmmjkaaGreatX27
import Derived.Test.YtmfelikepmmjkaaGreatX29
import Derived.Test.YtmfelikepmmjkaaGreatX25
import Derived.Test.YtmfelikepmmjkaaGreatX23
import Derived.Test.YtmfelikepmmjkaaGreatX37
import Derived.Test.YtmfelikepmmjkaaGreatX16
import Derived.Test.YtmfelikepmmjkaaGreatSort1
import Derived.Test.YtmfelikepmmjkaaGreatX33
set_option linter.unusedVariables false
set_option linter.unusedSimpArgs false
set_option maxHeartbeats 16000000
set_option maxRecDepth 20000
namespace Go.Eng
open Go
def Ax:aU:=[122,122]
def Nq:List Int:=[3,1,0,0,0,0,0,0,0,5]
theorem V1 {D:List dG} {T:List (aU×Int)} {k:aU} {v:List Int} (hk:1<=k.length/\k.length<=20) (hv:v.length<=4000):xI D T [] [⟨k,v,false⟩]=0:=by
 unfold xI
 have h1:Cv [] [⟨k,v,false⟩]=true:=by
  unfold Cv
  rw [Jm (fun w hw=>?_) (by simp) fun w _ h=>by cases h]
  · rfl
  · rw [List.mem_singleton.1 hw]
    refine ⟨?_,(fun h=>by cases h),hv⟩
    unfold Au;simp;omega
 rw [h1]
 simp [Dl]
theorem HL {a p:aL}:∀ {L:List aL},lV L->a∈L->p∈L->a.name=p.name->a=p:=by
 intro L hL
 induction hL with
 |nil=>intro h;cases h
 |cons h _ ih=>
  intro a1 b1 e
  cases a1 with
  |head=>cases b1 with
   |head=>rfl
   |tail _ b=>exact absurd e (iP (h _ b))
  |tail _ a=>cases b1 with
   |head=>exact absurd e.symm (iP (h _ a))
   |tail _ b=>exact ih a b e
theorem HM {l:List aL} {p:aL} (h:lV l) (hp:p∈l) {k:aU} (hk:p.name=k):l.find? (fun q=>q.name==k)=some p:=by
 subst hk
 cases hf:l.find? fun q=>q.name==p.name with
 |none=>exact absurd (List.find?_eq_none.1 hf p hp) (by simp)
 |some x=>rw [HL h (List.mem_of_find?_eq_some hf) hp (by simpa using List.find?_some hf)]
theorem FX {s:dY} {p e:aL} (h:lV s.aE) (he:e∈s.aE) (hn:e.name=p.name):(kV s p).aE.length=s.aE.length:=by
 obtain ⟨A,B,ZY⟩:=List.append_of_mem he
 have ha:(s.aE.any fun q=>q.name==p.name)=true:=List.any_eq_true.2 ⟨e,he,by simpa using hn⟩
 unfold kV
 rw [ha]
 dsimp only
 rw [ZY] at h ⊢
 obtain ⟨_,h2,h3⟩:=List.pairwise_append.1 h
 rw [Je (t:=true) (fun q hq=>by rw [<-hn];exact iP (h3 q hq e (.head _))) (fun q hq=>by rw [<-hn];exact (iP ((List.pairwise_cons.1 h2).1 q hq)).symm) hn]
 simp
theorem Uc {s:dY} {vs:List aU} {p:aL} {nd:aU} (hr:lV s.aE):Ll s vs (fC p nd) (kV (kV (aW s vs) { p with node:=nd }) (fC p nd)):=by
 have Ef:lV (aW s vs).aE:=List.Pairwise.sublist List.filter_sublist hr
 have x1:=xF (s:=aW s vs) (p:={ p with node:=nd }) Ef
 have x2:=xF (p:=fC p nd) x1.jK
 refine ⟨by rw [x2.nodes,x1.nodes];rfl,x2.jK,fun x=>?_⟩
 rw [x2.mem,x1.mem]
 have h3:x∈(aW s vs).aE↔x∈s.aE/\x.name∉vs:=by
  unfold aW
  rw [List.mem_filter]
  simp only [Bool.not_eq_true',List.any_eq_false,beq_iff_eq]
  exact ⟨fun ⟨a,b⟩=>⟨a,fun h=>b _ h rfl⟩,fun ⟨a,b⟩=>⟨a,fun v hv e=>b (e▸hv)⟩⟩
 rw [h3]
 constructor
 · rintro (h|⟨rfl|⟨⟨a,b⟩,c⟩,h⟩)
   · exact .inl h
   · exact absurd rfl h
   · exact .inr ⟨a,h,b⟩
 · rintro (h|⟨a,b,c⟩)
   · exact .inl h
   · exact .inr ⟨.inr ⟨⟨a,c⟩,b⟩,b⟩
abbrev Hs (A:aA) (o o':Obj):aA:=(A.push o).set A.next o'
theorem sB {A:aA} (o o':Obj):(Hs A o o').get A.next=some o':=aA.aD (aA.aB _ _)
theorem mS {A:aA} {j:Nat} {x:Obj} (o o':Obj) (hx:A.get j=some x) (hj:j<A.next):(Hs A o o').get j=some x:=(eR j hj).trans hx
theorem FY {A:aA} {j:Nat} {x:Obj} (o:Obj) (hx:A.get j=some x) (hj:j<A.next):(A.push o).get j=some x:=aA.gp (Nat.ne_of_lt hj) hx
structure Zz (p0:aL):Prop where
 b:gY p0=true
 name:p0.name=Ax
 node:p0.node=[]
 term:p0.term=0
section
variable {P:Program} (hG:bP P AF.fns.get) (hH:C3 P 104 AF.Cw=true)
include hG hH
theorem Ud (hA:Hx P) {h:aA} {a:Nat} {R:Int} {D:List dG} {T:List (aU×Int)} (hs:SS h a R D T) (hR:R<=1000000) (k:aU) (v:List Int) (hk:1<=k.length/\k.length<=20) (hv:v.length<=4000) {K:V->aA->Prop}
 (hK:∀ h',SS h' a (R+1) (sK D ⟨k,R+1,v⟩) (xD T (R+1) [⟨k,v,false⟩])->K (.bY [.i .i64 (R+1),.i .i64 0]) h'):
 aC P 10 [.p (.g a) 0,.agg [.aS,.sl none 3 [[.s k,.sl none 1 (v.map hM),.b false]]]] h K:=by
 refine aC.leq (args':=[.p (.g a) 0,.agg [.sl none 3 [],.sl none 3 [[.s k,.sl none 1 (v.map hM),.b false]]]]) (hr:=⟨.inl rfl,.inr (.inr (.inl ⟨_,_,rfl,rfl,yZ⟩)),trivial⟩) (h0:=?_)
 refine No (gs:=[]) (ws:=[⟨k,v,false⟩]) hG hH hA hs hR (fun g hg=>by cases hg) (by decide) (fun w hw=>?_) (by simp) (fun he=>absurd (V1 hk hv) he) fun _ h' h1=>hK h' h1
 rw [List.mem_singleton.1 hw]
 exact ⟨⟨by show k.length<=_;omega,by show v.length<=_;omega⟩,by show v.length<=_;omega⟩
end
open Go
section
variable {P:Program} (hG:bP P AF.fns.get) (hH:C3 P 104 AF.Cw=true)
include hG hH
theorem planTxn_ok (eN:dQ P 285) (hA:Hx P) (hSo:Br P) (hb:aC P 5 [] iJ (fun r _=>r=.b true)) (eK:gZ P) (hS:Bd P 81 61)
 (s:dY) (p:aL) (pack:Bool) (hs:s.arg) (hp:p.fit/\p.Ba):aC P 3 [kS s,.agg (aI p),.b pack] iJ (fun r _=>r=.b true):=by
 have mY:=hs.term
 have VO:=cutX_ok hG s hs.nodes hs.aE (fun n hn=>⟨(hs.node n hn).1.E3,(hs.node n hn).2⟩) (fun q hq=>⟨(hs.pT q hq).1.E3,(hs.pT q hq).2⟩)
 obtain ⟨p0,F8⟩:∃ p0:aL,p0={ p with node:=[],term:=0,name:=Ax }:=⟨_,rfl⟩
 have FZ:p0.fit/\p0.Ba:=by
  rw [F8]
  exact ⟨⟨⟨hp.1.aN,hp.1.labels,hp.1.bW,hp.1.lM,hp.1.cV,hp.1.even⟩,hp.1.fQ⟩,⟨(show bQ Ax by unfold bQ Ax;decide),hp.2.eG,(show bQ ([]:aU) by unfold bQ;decide),hp.2.labels,hp.2.lM,hp.2.bW,hp.2.cV,hp.2.even⟩⟩
 have Qh:=rpodB_ok hG p0 FZ.1.E3 FZ.2
 have Xj:=Qh
 rw [F8] at Xj
 refine dU (hG _ AF.f3 rfl) rfl ?_
 ((conv=>whnf);repeat ((first|refine zz ?_)<;>(conv=>whnf)))
 refine ⟨hb.frame rfl fun v h' hv=>?_⟩
 subst hv
 refine ⟨rfl,?_⟩
 ((conv=>whnf);repeat ((first|refine zz ?_)<;>(conv=>whnf)))
 refine dF.mk (Pure.state VO rfl fun w hw=>?_)
 ((conv=>whnf);repeat ((first|refine cA (Pure.any Xj rfl) ?_|refine zz ?_)<;>(conv=>whnf)))
 intro r hr
 cases r
 · ((conv=>whnf);repeat ((first|refine zz ?_)<;>(conv=>whnf)))
 rw [<-F8] at hr
 have hz:Zz p0:=⟨hr rfl,by rw [F8],by rw [F8],by rw [F8]⟩
 have Vz:=hw.of.Yv
 have HN:=xF (s:=w) (p:=p0) hw.jK
 have CU:=rwithX_ok hG w p0 (by omega)
 rw [F8] at CU
 have Zs:=putl5_ok hG
 have yR:=fun (h:aA) K hK=>Zh (K:=K) (h:=h) hG hK
 ((conv=>whnf);repeat ((first|refine cA (Pure.go CU rfl) ?_|refine cA (yR _ _) ?_|refine zz ?_)<;>(conv=>whnf)))
 rw [<-F8]
 obtain ⟨s2,Nf⟩:∃ s2,s2=kV w p0:=⟨_,rfl⟩
 rw [<-Nf] at HN ⊢
 have Jg:∀ q∈s2.aE,gY q=true:=fun q hq=>by
  rcases (HN.mem q).1 hq with rfl|⟨h1,_⟩
  · exact hz.b
  · exact hw.pb q h1
 have uS:∀ n∈s2.nodes,CV n=true:=by rw [HN.nodes];exact hw.nb
 have Gx:∀ q∈s2.aE,q.term<=9223372036854775807:=fun q hq=>by
  rcases (HN.mem q).1 hq with rfl|⟨h1,_⟩
  · rw [hz.term];decide
  · exact mY q (hw.of.Yw q h1)
 have UX:s2.nodes.length<=6:=by rw [HN.nodes];exact hw.of.nodes.len
 have Xy:s2.aE.length<=17:=by have:=HN.len;omega
 have Ue:s2.nodes.Pairwise fun a b=>bR a.name b.name:=by rw [HN.nodes];exact hw.of.nodes.so
 intro h1 a zI
 have iW:=fun K hK=>Ud (K:=K) hG hH hA zI (by decide) oT Nq (by decide) (by decide) hK
 have ld0:gB (sK [] ⟨oT,0+1,Nq⟩) (Lo Nq ((sM s2).take 0)):=gB.nil.put ⟨oT,0+1,Nq⟩
 obtain ⟨E,hE⟩:∃ E,E=sM s2:=⟨_,rfl⟩
 have hEl:E.length<=23:=by rw [hE];unfold sM;rw [List.length_append,xG,Bv];omega
 have hEr:Zn E:=by rw [hE];exact Zp Ue HN.jK
 have hEk:∀ e∈E,(1<=e.key.length/\e.key.length<=20)/\e.val.length<=4000:=fun e he=>by
  rw [hE] at he
  rcases List.mem_append.1 he with he|he
  · have h7:(e.key,e.val)∈(vF 0 s2.nodes).map fun e=>(e.key,e.val):=List.mem_map.2 ⟨e,he,rfl⟩
    rw [DU] at h7
    obtain ⟨n,h8,h9⟩:=List.mem_map.1 h7
    have GM:=Qs (FW (uS n h8))
    injection h9 with LI Jx
    rw [<-LI,<-Jx]
    exact ⟨by unfold dK;simp;omega,Lp (uS n h8)⟩
  · have h7:(e.key,e.val)∈(uR 0 s2.aE).map fun e=>(e.key,e.val):=List.mem_map.2 ⟨e,he,rfl⟩
    rw [DV] at h7
    obtain ⟨n,h8,h9⟩:=List.mem_map.1 h7
    have GM:=Qs (yP (Jg n h8))
    injection h9 with LI Jx
    rw [<-LI,<-Jx]
    exact ⟨by unfold bO;simp;omega,FV (Jg n h8)⟩
 have akA:E≠[]:=fun h7=>by
  have h8:p0∈s2.aE:=(HN.mem p0).2 (.inl rfl)
  have h9:(sM s2).length=s2.nodes.length+s2.aE.length:=by unfold sM;rw [List.length_append,xG,Bv]
  rw [<-hE,h7] at h9
  have:=List.length_pos_of_mem h8
  simp at h9;omega
 rw [<-hE] at ld0
 ((conv=>whnf);repeat ((first|refine cA (Pure.go Zs rfl) ?_|refine cA (iW _) ?_|refine zz ?_)<;>(conv=>whnf)))
 intro h2 aeJ
 have aeK:=fun K hK=>entries_at (K:=K) hG eN (h:=h2) s2 (by omega) (by omega) uS Jg Gx hK
 ((conv=>whnf);repeat ((first|refine cA (aeK _) ?_|refine zz ?_)<;>(conv=>whnf)))
 intro lv h3 UB k3
 rw [<-hE] at UB
 have hs3:=aeJ.dZ k3
 rcases UB with ⟨_,h⟩|rfl
 · exact absurd h akA
 have hEm:(E.map lG).length=E.length:=List.length_map _
 ((conv=>whnf);repeat ((first|refine zz ?_)<;>(conv=>whnf)))
 refine cS.by (fun q fr st=>∃ (i:Nat) (hh lo:aA) (D:List dG) (T:List (aU×Int)),i<=E.length/\q=E.length - i/\SS hh a (1+i) D T/\gB D (Lo Nq (E.take i))/\1<lo.next/\lo.get 0=some (.cs [.sl none 6 (s2.nodes.map aK),.sl none 16 (s2.aE.map aI)])/\lo.get 1=some (.cs (aI p0))/\
  Fr.le [(61,.i .i64 i),(60,.i .i64 (E.map lG).length),(59,.sl none 3 (E.map lG)),(8,.p (.g a) 0),(4,.p (.l 1) 0),(3,.p (.l 0) 0),(2,.b pack)] fr/\st=⟨hh,lo⟩)
  E.length ⟨0,h3,_,_,_,Nat.zero_le _,rfl,(show SS h3 a (1+((0:Nat):Int)) _ _ from hs3),ld0,(by show 1<3;decide),rfl,(by rw [F8];rfl),cT,rfl⟩ ?_
 clear zI aeJ hs3 iW aeK
 rintro q fr st ⟨i,hh,lo,D,T,hi,rfl,Sn,iX,l1,g0,g1,hle,rfl⟩
 refine ⟨_,hle,fun R hR=>?_⟩
 by_cases cY:i<E.length
 · have he:=List.getElem?_eq_getElem cY
   have hek:=hEk _ (List.getElem_mem cY)
   generalize E[i]=e at he hek
   have iW:=fun K hK=>Ud (K:=K) hG hH hA Sn (by omega) e.key e.val hek.1 hek.2 hK
   have akC:=VZ iX hEr he
   have gk:∀ (o o':Obj) (j:Nat) (x:Obj),j<lo.next->lo.get j=some x->(((lo.push o).set lo.next o').push .spare).get j=some x:=fun o o' j x hj hx=>aA.gp (by show j≠lo.next+1;omega) (aA.gs (by omega) (aA.gp (by omega) hx))
   ((conv=>whnf);repeat ((first|refine aH.dt (show (i:Int)<(E.map lG).length by omega) ?_|refine aM.ix (by omega) (by omega) ?_|refine cA (iW _) ?_|refine ye (aF (f:=lG) (by omega) he) ?_|refine ye (aA.aB _ _) ?_|refine ye (aA.aD (aA.aB _ _)) ?_|refine zz ?_)<;>(conv=>whnf)))
   intro h5 hs5
   ((conv=>whnf);repeat ((first|refine aR.gA (by omega) (by omega) ?_|refine zz ?_)<;>(conv=>whnf)))
   refine hR (E.length - (i+1)) _ _ (by omega) ⟨i+1,h5,_,_,_,by omega,rfl,(by rw [show (1:Int)+((i+1:Nat):Int)=1+i+1 by omega];exact hs5),(by rw [show (1:Int)+i+1=2+i by omega];exact akC),Nat.lt_succ_of_lt (Nat.lt_succ_of_lt l1),gk _ _ 0 _ (by omega) g0,gk _ _ 1 _ (by omega) g1,cT,rfl⟩
 obtain rfl:i=E.length:=by omega
 clear hR cY hi k3
 rw [List.take_length,hE] at iX
 obtain ⟨f,vG,Zf,Gn⟩:=Zo iX.jK
 rw [vG] at iX
 have PL:s2.ok:=⟨by unfold bQ;omega,by unfold bQ;omega,fun n hn=>(hs.node n (hw.of.nodes.sub n (by rw [<-HN.nodes];exact hn)).1).1.E3,fun q hq=>by
  rcases (HN.mem q).1 hq with rfl|⟨h1,_⟩
  · exact FZ.1
  · exact (hs.pT q (hw.of.Yw q h1)).1,by omega⟩
 have wO:Small s2:=fun n hn=>by
  rw [HN.nodes] at hn
  have:=hw.of.nodes.sub n hn
  omega
 have mC:∀ q∈s2.aE,iM q:=fun q hq=>(qZ (Jg q hq)).room
 have Zr:s2.aE.Pairwise fun a b=>a.name≠b.name:=HN.jK.imp iP
 obtain ⟨o,ho,xY⟩:=Ua hG eK hS s2 p0 pack PL FZ.1 wO UX (by omega) mC Zr Ue
 obtain ⟨Rv,hRv⟩:∃ Rv:Int,Rv=1+(E.length:Int):=⟨_,rfl⟩
 rw [<-hRv] at Sn
 have hDl:D.length<=100000:=by rw [iX.len,<-vG];unfold Lo;rw [List.length_cons,<-hE,show (QM 2 E).length=E.length by have:=congrArg List.length (FU E 2);simpa using this];omega
 have hli:=fun (h:aA) (hx:SS h a Rv D T) (K:V->aA->Prop) hK=>OH (K:=K) hG hA hSo hx hDl iX hK
 have vH:=fun (h:aA) (hx:SS h a Rv D T) (K:V->aA->Prop) hK=>Zi (K:=K) hG hx hK
 have hLl:(xM f Nq s2).length<=100000:=by rw [<-iX.len];exact hDl
 have pH:=fun (h:aA) (pT node:aU) (h1:pT.length<=12) (h2:bI pT=false) (h3:node.length<=12) h4 (vs:List aU) (t:Int) (K:V->aA->Prop) hK=>Qk (K:=K) (h:=h) hG eN hLl Rv pT node h1 h2 h3 h4 vs t hK
 rw [hz.name] at xY
 have c0:∀ j,j<=lo.next->j<lo.next+1:=fun j h=>Nat.lt_succ_of_le h
 have b1:=fun o o'=>sB (A:=lo) o o'
 have b2:=fun o o' o2 Nr=>mS (A:=Hs lo o o') o2 Nr (b1 o o') (Nat.lt_succ_self _)
 have b2':=fun o o' o2 Nr=>sB (A:=Hs lo o o') o2 Nr
 have b1p:=fun o o' o2=>FY (A:=Hs lo o o') o2 (b1 o o') (Nat.lt_succ_self _)
 have b2p:=fun o o' o2 Nr o3=>FY (A:=Hs (Hs lo o o') o2 Nr) o3 (b2 o o' o2 Nr) (Nat.lt_succ_of_lt (Nat.lt_succ_self _))
 cases o with
 |none=>
  ((conv=>whnf);repeat ((first|refine aH.df (show ¬((E.length:Nat):Int)<(E.map lG).length by omega) ?_|refine cA (Pure.go xY rfl) ?_|refine cA (hli _ Sn _) ?_|refine ye (g0) ?_|refine ye (g1) ?_|refine ye (aA.aB _ _) ?_|refine ye (b1 _ _) ?_|refine zz ?_)<;>(conv=>whnf)))
  intro h6 hs6
  have PN:=fun K hK=>pH h6 [] [] (by decide) rfl (by decide) (fun h=>by cases h) [] 1 K hK
  ((conv=>whnf);repeat ((first|refine cA (vH _ hs6 _) ?_|refine cA (PN _) ?_|refine ye (b1 _ _) ?_|refine ye (b1p _ _ _) ?_|refine zz ?_)<;>(conv=>whnf)))
  intro h7 k7
  have hs7:=hs6.dZ k7
  ((conv=>whnf);repeat ((first|refine cA (hli _ hs7 _) ?_|refine ye (b1p _ _ _) ?_|refine ye (aA.aB _ _) ?_|refine ye (b2 _ _ _ _) ?_|refine zz ?_)<;>(conv=>whnf)))
  intro h8 hs8
  have Hf:=fun K hK=>pH h8 [] [] (by decide) rfl (by decide) (fun h=>by cases h) [] 0 K hK
  ((conv=>whnf);repeat ((first|refine cA (vH _ hs8 _) ?_|refine cA (Hf _) ?_|refine ye (b2 _ _ _ _) ?_|refine ye (b2p _ _ _ _ _) ?_|refine zz ?_)<;>(conv=>whnf)))
  intro h9 k9
  ((conv=>whnf);repeat ((first|refine ye (b2p _ _ _ _ _) ?_|refine ye (aA.aB _ _) ?_|refine zz ?_)<;>(conv=>whnf)))
 |some d=>
  obtain ⟨nd,vs⟩:=d
  obtain ⟨jE,akF,Jv,akG⟩:=ho.f nd vs rfl
  obtain ⟨n0,Wm,Ly⟩:∃ n0∈s2.nodes,n0.name=nd:=by
   have h7:=jE
   unfold gR at h7
   cases h8:(aW s2 vs).nodes.find? (fun n=>n.name==nd) with
   |none=>rw [h8] at h7;cases h7
   |some n0=>exact ⟨n0,List.mem_of_find?_eq_some h8,by simpa using List.find?_some h8⟩
  have V2:bI nd=true:=by rw [<-Ly];exact FW (uS n0 Wm)
  have ON:=Qs V2
  have V3:p0∈s2.aE:=(HN.mem p0).2 (.inl rfl)
  obtain ⟨X,hX⟩:∃ X,X=vs.map fun v=>((eA (xM f Nq s2) (bO v)).getD ⟨[],0,[]⟩):=⟨_,rfl⟩
  have hP:xP f Nq s2 Rv p0 n0 vs X:=⟨Ue,HN.jK,uS,Jg,V3,Wm,fun v hv=>by
   obtain ⟨q,h7,h8,h9⟩:=akG v hv
   refine ⟨q,h7,h8,fun e=>?_⟩
   rw [HL HN.jK h7 V3 e] at h9
   omega,akF,by omega,hX,Zf,fun k=>by have:=Gn k;rw [<-hE] at this;omega⟩
  have Z5:gY (fC p0 nd)=true:=by
   have h7:=hz.b
   unfold gY Hq at h7 ⊢
   simp only [Bool.and_eq_true] at h7 ⊢
   obtain ⟨a1,a2,a3,a4,a5,a6,a7,a8,a9,a10,a11,_⟩:=h7
   refine ⟨a1,a2,a3,a4,a5,a6,a7,a8,a9,a10,a11,?_⟩
   show ((bI nd&&decide ((0:Int)<1))||_)=true
   rw [V2];rfl
  have aeN:=xH hz.b
  have Xx:=hP.aeG
  have F7:=hP.aeH
  have hzB:bI Ax=true:=by decide
  rw [hz.name] at Xx
  rw [Ly] at F7
  have Jy:=fun (h:aA) (K:V->aA->Prop) hK=>ptxn_at (K:=K) (h:=h) hG eN hLl Rv Ax nd hzB V2 Xx F7 p0 aeN hz.b (by rw [hz.term];decide) rfl hz.node vs 1 (by decide) (by intro e;rw [e] at ON;simp at ON) (fC p0 nd) rfl Z5 (xH Z5) X (by rw [hX,List.length_map]) (by omega) (fun i v x h7 h8=>hP.find i v x h7 h8) hK
  have YW:=fun (h:aA) (K:V->aA->Prop) hK=>TY (K:=K) (h:=h) hG eN hLl Rv Ax nd hzB V2 Xx F7 p0 aeN hz.b (by rw [hz.term];decide) rfl hz.node vs 0 (by decide) hK
  have YV:∀ (h:aA) (K:V->aA->Prop),(∀ h',aA.aJ (fun _=>False) h h'->K (.bY [.agg [.aS,.aS],.b false]) h')->aC P 14 [.sl none 3 ((xM f Nq s2).map lG),.i .i64 Rv,.agg [.s [78,79,66,79,68,89],.s nd,.aS],.i .i64 1] h K:=fun h K hK=>
   aC.leq (args':=[.sl none 3 ((xM f Nq s2).map lG),.i .i64 Rv,.agg [.s [78,79,66,79,68,89],.s nd,.sl none 1 []],.i .i64 1]) (hr:=⟨.inl rfl,.inl rfl,.inr (.inr (.inl ⟨_,_,rfl,rfl,yZ⟩)),.inl rfl,trivial⟩) (h0:=pH h [78,79,66,79,68,89] nd (by decide) (by decide) (by omega) (fun _=>⟨_,F7⟩) [] 1 K hK)
  have b3:=fun o o' o2 Nr o3 Z6=>mS (A:=Hs (Hs lo o o') o2 Nr) o3 Z6 (b2 o o' o2 Nr) (Nat.lt_succ_of_lt (Nat.lt_succ_self _))
  have b3':=fun o o' o2 Nr o3 Z6=>mS (A:=Hs (Hs lo o o') o2 Nr) o3 Z6 (b2' o o' o2 Nr) (Nat.lt_succ_self _)
  have b3p:=fun o o' o2 Nr o3 Z6 o4=>FY (A:=Hs (Hs (Hs lo o o') o2 Nr) o3 Z6) o4 (b3 o o' o2 Nr o3 Z6) (by show lo.next<lo.next+1+1+1;omega)
  ((conv=>whnf);repeat ((first|refine aH.df (show ¬((E.length:Nat):Int)<(E.map lG).length by omega) ?_|refine cA (Pure.go xY rfl) ?_|refine cA (hli _ Sn _) ?_|refine ye (g0) ?_|refine ye (g1) ?_|refine ye (aA.aB _ _) ?_|refine ye (b1 _ _) ?_|refine zz ?_)<;>(conv=>whnf)))
  intro h6 hs6
  ((conv=>whnf);repeat ((first|refine cA (vH _ hs6 _) ?_|refine cA (Jy h6 _) ?_|refine ye (b1 _ _) ?_|refine ye (b1p _ _ _) ?_|refine zz ?_)<;>(conv=>whnf)))
  intro h7 k7
  have hs7:=hs6.dZ k7
  ((conv=>whnf);repeat ((first|refine cA (hli _ hs7 _) ?_|refine ye (b1p _ _ _) ?_|refine ye (aA.aB _ _) ?_|refine ye (b2 _ _ _ _) ?_|refine zz ?_)<;>(conv=>whnf)))
  intro h8 hs8
  ((conv=>whnf);repeat ((first|refine cA (vH _ hs8 _) ?_|refine cA (YW h8 _) ?_|refine ye (b2 _ _ _ _) ?_|refine ye (b2p _ _ _ _ _) ?_|refine zz ?_)<;>(conv=>whnf)))
  intro h9 k9
  have hs9:=hs8.dZ k9
  ((conv=>whnf);repeat ((first|refine cA (hli _ hs9 _) ?_|refine ye (b2p _ _ _ _ _) ?_|refine ye (aA.aB _ _) ?_|refine ye (b3 _ _ _ _ _ _) ?_|refine zz ?_)<;>(conv=>whnf)))
  intro GM aeO
  ((conv=>whnf);repeat ((first|refine cA (vH _ aeO _) ?_|refine cA (YV GM _) ?_|refine ye (b3 _ _ _ _ _ _) ?_|refine ye (b3p _ _ _ _ _ _ _) ?_|refine zz ?_)<;>(conv=>whnf)))
  intro LI YH
  have akH:=aeO.dZ YH
  have b4:∀ {o1 p1 o2 p2 o3 p3 o4 p4:Obj},(Hs (Hs (Hs (Hs lo o1 p1) o2 p2) o3 p3) o4 p4).get lo.next=some p1:=fun {o1 p1 o2 p2 o3 p3 o4 p4}=>mS o4 p4 (b3 o1 p1 o2 p2 o3 p3) (by show lo.next<lo.next+1+1+1;omega)
  have t4:∀ {o1 p1 o2 p2 o3 p3 o4 p4:Obj},(Hs (Hs (Hs (Hs lo o1 p1) o2 p2) o3 p3) o4 p4).get (lo.next+1)=some p2:=fun {o1 p1 o2 p2 o3 p3 o4 p4}=>mS o4 p4 (b3' o1 p1 o2 p2 o3 p3) (by show lo.next+1<lo.next+1+1+1;omega)
  have z4:∀ {o1 p1 o2 p2 o3 p3 o4 p4:Obj},(Hs (Hs (Hs (Hs lo o1 p1) o2 p2) o3 p3) o4 p4).get 0=some (.cs [.sl none 6 (s2.nodes.map aK),.sl none 16 (s2.aE.map aI)]):=fun {o1 p1 o2 p2 o3 p3 o4 p4}=>
   mS o4 p4 (mS o3 p3 (mS o2 p2 (mS o1 p1 g0 (by omega)) (by show 0<lo.next+1;omega)) (by show 0<lo.next+1+1;omega)) (by show 0<lo.next+1+1+1;omega)
  have Nh:∀ g∈rE Rv 1 ⟨bO Ax,f (bO Ax),bZ p0⟩ ⟨dK nd,f (dK nd),dO n0⟩,g.key.length<=9223372036854775807:=fun g hg=>by
   have hk:(dK nd).length<=20:=by unfold dK;simp;omega
   simp only [rE,List.mem_cons,List.not_mem_nil,or_false] at hg
   rcases hg with rfl|rfl|rfl|rfl|rfl
   · show (1:Nat)<=_;decide
   · show (4:Nat)<=_;decide
   · show (dK nd).length<=_;omega
   · show (2:Nat)<=_;decide
   · show (2:Nat)<=_;decide
  have hwk:∀ w∈sO ⟨bO Ax,f (bO Ax),bZ p0⟩ (fC p0 nd)::X.map kO,TH w/\w.val.length<=100000:=fun w hx=>by
   have hm:=hP.may Z5
   rw [hz.name,Ly] at hm
   unfold Cv at hm
   simp only [Bool.and_eq_true] at hm
   have h7:=Ct hm.2.2.2.2 w hx
   have h8:=h7.key
   have h9:=h7.val
   exact ⟨⟨by omega,by omega⟩,by omega⟩
  have CS:(sO ⟨bO Ax,f (bO Ax),bZ p0⟩ (fC p0 nd)::X.map kO).length<=1000:=by rw [hX];simp;omega
  have htx:=fun K hK1 hK=>No (K:=K) hG hH hA akH (by omega) (rE Rv 1 ⟨bO Ax,f (bO Ax),bZ p0⟩ ⟨dK nd,f (dK nd),dO n0⟩) Nh (show 5<=100 by decide) (sO ⟨bO Ax,f (bO Ax),bZ p0⟩ (fC p0 nd)::X.map kO) hwk CS hK1 hK
  have QC:xI D T (rE Rv 1 ⟨bO Ax,f (bO Ax),bZ p0⟩ ⟨dK nd,f (dK nd),dO n0⟩) (sO ⟨bO Ax,f (bO Ax),bZ p0⟩ (fC p0 nd)::X.map kO)=0:=by
   have:=hP.ok iX (fun t ht=>(Sn.t t ht).2) Z5
   rw [hz.name,Ly] at this
   exact this
  rw [QC] at htx
  have akJ:=fun K hK=>htx K (fun h=>absurd rfl h) hK
  ((conv=>whnf);repeat ((first|refine cA (akJ _) ?_|refine ye (b3p _ _ _ _ _ _ _) ?_|refine ye (aA.aB _ _) ?_|refine ye (t4) ?_|refine zz ?_)<;>(conv=>whnf)))
  intro _ Jx akK
  have akL:p0.name∉vs:=fun h=>by
   obtain ⟨q,h7,h8,h9⟩:=hP.Z3 _ h
   exact h9 h8
  have aeP:p0∈(aW s2 vs).aE:=List.mem_filter.2 ⟨V3,by
   simp only [Bool.not_eq_true',List.any_eq_false,beq_iff_eq]
   exact fun v hv e=>akL (e▸hv)⟩
  have arP:(aW s2 vs).aE.length<=s2.aE.length:=List.length_filter_le _ _
  have Nw:(aW s2 vs).aE.find? (fun q=>q.name==Ax)=some p0:=HM (List.Pairwise.sublist List.filter_sublist HN.jK) aeP hz.name
  have hov:=fun K hK=>rover_at (K:=K) hG (h:=Jx) s2 PL Ax nd vs (by omega) (by omega) p0 Nw hK
  ((conv=>whnf);repeat ((first|refine cA (hov _) ?_|refine ye (b4) ?_|refine ye (z4) ?_|refine zz ?_)<;>(conv=>whnf)))
  obtain ⟨p1,Z7⟩:∃ p1:aL,p1={ p0 with node:=nd }:=⟨_,rfl⟩
  obtain ⟨w1,QH⟩:∃ w1,w1=kV (aW s2 vs) p1:=⟨_,rfl⟩
  obtain ⟨w2,M4⟩:∃ w2,w2=kV w1 (fC p0 nd):=⟨_,rfl⟩
  rw [<-Z7,<-QH]
  have Xk:Ll s2 vs (fC p0 nd) w2:=by rw [M4,QH,Z7];exact Uc HN.jK
  have Ef:lV (aW s2 vs).aE:=List.Pairwise.sublist List.filter_sublist HN.jK
  have x1:=xF (s:=aW s2 vs) (p:=p1) Ef
  have akM:=FX (p:=p1) Ef aeP (by rw [Z7])
  rw [<-QH] at x1 akM
  have arR:w1.aE.length<=1000:=by omega
  have aeQ:p1∈w1.aE:=(x1.mem p1).2 (.inl rfl)
  have akN:w1.aE.find? (fun q=>q.name==Ax)=some p1:=HM x1.jK aeQ (by rw [Z7];exact hz.name)
  have akO:=FX (p:=fC p0 nd) x1.jK aeQ (by rw [Z7];rfl)
  rw [<-M4] at akO
  have Xd:=rgetpod_ok hG w1 Ax (by unfold bQ;omega)
  rw [akN,Z7] at Xd
  have aeR:=rwithX_ok hG w1 (fC p0 nd) (by omega)
  rw [<-M4] at aeR
  have e25:∀ {A:aA} {o p:Obj},(Hs A o p).get A.next=some p:=fun {A o p}=>sB o p
  have aeS:∀ {A:aA} {o p o2 p2 p3:Obj},((Hs (Hs A o p) o2 p2).set (A.next+1) p3).get A.next=some p:=fun {A o p o2 p2 p3}=>aA.gs (by omega) (mS o2 p2 (sB o p) (Nat.lt_succ_self _))
  have e26:∀ {A:aA} {o p o2 p2:Obj},(Hs (Hs A o p) o2 p2).get (A.next+1)=some p2:=fun {A o p o2 p2}=>sB (A:=Hs A o p) o2 p2
  have akP:∀ {A:aA} {o p o2 p2 p3:Obj},((Hs (Hs A o p) o2 p2).set (A.next+1) p3).get (A.next+1)=some p3:=fun {A o p o2 p2 p3}=>aA.aD (sB (A:=Hs A o p) o2 p2)
  ((conv=>whnf);repeat ((first|refine cA (Pure.go Xd rfl) ?_|refine cA (Pure.go aeR rfl) ?_|refine ye (aA.aB _ _) ?_|refine ye (akP) ?_|refine ye (aeS) ?_|refine ye (e26) ?_|refine ye (e25) ?_|refine zz ?_)<;>(conv=>whnf)))
  have fold:∀ {A:aA} {j:Nat} {x:Obj} {o p o2 p2 p3 p4 o5 p5:Obj},A.get j=some x->j<A.next->(Hs (((Hs (Hs A o p) o2 p2).set (A.next+1) p3).set A.next p4) o5 p5).get j=some x:=fun {A j x o p o2 p2 p3 p4 o5 p5} hx hj=>
   mS o5 p5 (aA.gs (by omega) (aA.gs (by omega) (mS o2 p2 (mS o p hx hj) (Nat.lt_succ_of_lt hj)))) (by show j<A.next+1+1;omega)
  have f17:∀ {o1 p1 o2 p2 o3 p3 o4 p4 o p o6 p6 p7 p8 o9 p9:Obj},(Hs (((Hs (Hs ((Hs (Hs (Hs (Hs lo o1 p1) o2 p2) o3 p3) o4 p4).push .spare) o p) o6 p6).set (lo.next+1+1+1+1+1+1) p7).set (lo.next+1+1+1+1+1) p8) o9 p9).get (lo.next+1)=some p2:=fun {o1 p1 o2 p2 o3 p3 o4 p4 o p o6 p6 p7 p8 o9 p9}=>
   fold (FY _ t4 (by show lo.next+1<lo.next+1+1+1+1;omega)) (by show lo.next+1<lo.next+1+1+1+1+1;omega)
  have f0:∀ {o1 p1 o2 p2 o3 p3 o4 p4 o p o6 p6 p7 p8 o9 p9:Obj},(Hs (((Hs (Hs ((Hs (Hs (Hs (Hs lo o1 p1) o2 p2) o3 p3) o4 p4).push .spare) o p) o6 p6).set (lo.next+1+1+1+1+1+1) p7).set (lo.next+1+1+1+1+1) p8) o9 p9).get 0=_:=fun {o1 p1 o2 p2 o3 p3 o4 p4 o p o6 p6 p7 p8 o9 p9}=>
   fold (FY _ z4 (by show 0<lo.next+1+1+1+1;omega)) (by show 0<lo.next+1+1+1+1+1;omega)
  have akQ:∀ {A:aA} {o p o2 p2 p3 p4 o5 p5:Obj},(Hs (((Hs (Hs A o p) o2 p2).set (A.next+1) p3).set A.next p4) o5 p5).get A.next=some p4:=fun {A o p o2 p2 p3 p4 o5 p5}=>
   mS o5 p5 (aA.aD aeS) (by show A.next<A.next+1+1;omega)
  have f25:∀ {o1 p1 o2 p2 o3 p3 o4 p4 o p o6 p6 p7 p8 o9 p9:Obj},(Hs (((Hs (Hs ((Hs (Hs (Hs (Hs lo o1 p1) o2 p2) o3 p3) o4 p4).push .spare) o p) o6 p6).set (lo.next+1+1+1+1+1+1) p7).set (lo.next+1+1+1+1+1) p8) o9 p9).get (lo.next+1+1+1+1+1)=some p8:=fun {o1 p1 o2 p2 o3 p3 o4 p4 o p o6 p6 p7 p8 o9 p9}=>akQ (A:=(Hs (Hs (Hs (Hs lo o1 p1) o2 p2) o3 p3) o4 p4).push .spare)
  obtain ⟨f',hf'⟩:∃ f':aU->Int,f'=fun k=>if k=bO p0.name then Rv+1 else f k:=⟨_,rfl⟩
  have Uf:=hP.after iX (q:=fC p0 nd) rfl Xk hf'
  have Ug:=Uf
  rw [hz.name] at Ug
  have Jp:w2.nodes=s2.nodes:=Xk.nodes
  have akR:w2.aE.length<=17:=by omega
  have Uh:∀ q∈w2.aE,gY q=true:=fun q hq=>by
   rcases (Xk.mem q).1 hq with rfl|⟨h,_⟩
   · exact Z5
   · exact Jg q h
  have aeT:∀ q∈w2.aE,q.term<=9223372036854775807:=fun q hq=>by
   rcases (Xk.mem q).1 hq with rfl|⟨h,_⟩
   · show (1:Int)<=_;decide
   · exact Gx q h
  have Wg:(xM f' Nq w2).length<=100:=by
   unfold xM
   rw [List.length_cons,List.length_append,List.length_map,List.length_map,Jp];omega
  have akS:=fun (K:V->aA->Prop) hK=>OH (K:=K) hG hA hSo akK (by rw [Ug.len];omega) Ug hK
  have hil:(NL f' Nq w2).length<=1000:=by
   have:=congrArg List.length (OJ f' Nq w2)
   rw [List.length_map] at this
   omega
  have Z1:∀ x∈NL f' Nq w2,Zg x:=fun x hx=>by
   unfold NL at hx
   rcases List.mem_cons.1 hx with rfl|hx
   · exact trivial
   rcases List.mem_append.1 hx with hx|hx
   · obtain ⟨n,h7,rfl⟩:=List.mem_map.1 hx
     exact uS n (by rw [<-Jp];exact h7)
   · obtain ⟨n,h7,rfl⟩:=List.mem_map.1 hx
     exact ⟨Uh n h7,aeT n h7⟩
  have hof:=fun (h:aA) (K:V->aA->Prop) hK=>of_at (K:=K) (h:=h) hG eN eK (NL f' Nq w2) Z1 hil (by rw [T7,Jp];omega) (by rw [T8];exact akR) (by rw [T7,Jp];exact Ue) (by rw [T8];exact Xk.jK) hK
  rw [OJ,T7,T8] at hof
  ((conv=>whnf);repeat ((first|refine cA (akS _) ?_|refine zz ?_)<;>(conv=>whnf)))
  intro Vy akT
  ((conv=>whnf);repeat ((first|refine cA (hof Vy _) ?_|refine zz ?_)<;>(conv=>whnf)))
  intro ZM VB
  have akU:=akT.dZ VB
  have aeU:=hP.again (T:=xD T (Rv+1) (sO ⟨bO Ax,f (bO Ax),bZ p0⟩ (fC p0 nd)::X.map kO)) Z5 rfl Xk hf' Uf
  rw [hz.name,Ly] at aeU
  have aeV:=fun K hK1 hK=>No (K:=K) hG hH hA akU (by omega) (rE Rv 1 ⟨bO Ax,f (bO Ax),bZ p0⟩ ⟨dK nd,f (dK nd),dO n0⟩) Nh (show 5<=100 by decide) (sO ⟨bO Ax,f (bO Ax),bZ p0⟩ (fC p0 nd)::X.map kO) hwk CS hK1 hK
  rw [aeU] at aeV
  have akV:=fun K hK=>aeV K (fun _=>hK) (fun h=>absurd h (by decide))
  ((conv=>whnf);repeat ((first|refine cA (akV _) ?_|refine ye (aA.aB _ _) ?_|refine ye (f17) ?_|refine zz ?_)<;>(conv=>whnf)))
  intro h15 arV
  have akW:w2.ok:=⟨by rw [Jp];exact PL.nodes,by unfold bQ;omega,by rw [Jp];exact PL.node,fun q hq=>by
   rcases (Xk.mem q).1 hq with rfl|⟨h,_⟩
   · exact ⟨⟨FZ.1.aN,FZ.1.labels,FZ.1.bW,FZ.1.lM,FZ.1.cV,FZ.1.even⟩,FZ.1.fQ⟩
   · exact PL.pT q h,by omega⟩
  have akX:Small w2:=fun n hn=>wO n (by rw [<-Jp];exact hn)
  have heq:=fun K hK=>Ub (K:=K) hG w2 (by rw [Jp];omega) (by rw [Jp];exact uS) Uh (h:=h15) hK
  have V4:=HF hG s2 PL wO mC
  have aeW:=HF hG w2 akW akX (fun q hq=>(qZ (Uh q hq)).room)
  cases Z4:pF s2 with
  |false=>
   rw [Z4] at V4
   ((conv=>whnf);repeat ((first|refine cA (heq _) ?_|refine cA (Pure.go V4 rfl) ?_|refine ye (sB _ _) ?_|refine ye (f25) ?_|refine ye (f0) ?_|refine zz ?_)<;>(conv=>whnf)))
  |true=>
   have hwb:=Lm Xk HN.jK Ue (fun q hq=>(qZ (Jg q hq)).fQ) (by omega) V3 (by intro e;rw [e] at ON;simp at ON) jE Z4
   rw [Z4] at V4
   rw [hwb] at aeW
   ((conv=>whnf);repeat ((first|refine cA (heq _) ?_|refine cA (Pure.go V4 rfl) ?_|refine cA (Pure.go aeW rfl) ?_|refine ye (sB _ _) ?_|refine ye (f25) ?_|refine ye (f0) ?_|refine zz ?_)<;>(conv=>whnf)))
end
open Go
theorem HO:∀ a:aU,jV a a=0
 |[]=>rfl
 |a::r=>by
  unfold jV
  have h1:Nat.blt a.toNat a.toNat=false:=by rw [Bool.eq_false_iff];exact fun hc=>by have:=(Nat.blt_eq▸hc:a.toNat<a.toNat);omega
  rw [h1]
  exact HO r
theorem Lr:∀ a b:aU,jV b a=- jV a b
 |[],[]=>rfl
 |[],_::_=>rfl
 |_::_,[]=>rfl
 |a::r,b::q=>by
  unfold jV
  cases h1:Nat.blt a.toNat b.toNat<;>cases h2:Nat.blt b.toNat a.toNat
  · exact Lr r q
  · rfl
  · rfl
  · exfalso
    have e1:=(Nat.blt_eq▸h1:a.toNat<b.toNat)
    have e2:=(Nat.blt_eq▸h2:b.toNat<a.toNat)
    omega
theorem DW {a b:aU}:decide (jV a b<0)=Op.bytesLess a b:=by
 cases h:Op.bytesLess a b with
 |true=>
  have:=fW h
  rw [Lr a b] at this
  exact decide_eq_true (by omega)
 |false=>
  refine decide_eq_false fun hc=>?_
  by_cases e:a=b
  · rw [e,HO] at hc;omega
  · have:=fW (oS h e)
    omega
theorem cH.Zt {E:Env} {st:St} {w w':World} (h:cH E st w) {os:Array Go.Obj} (hh:w'.heap=w.heap++os) (h1:w'.os=w.os) (h2:w'.output=w.output) (h3:w'.tape=w.tape):cH E st w'/\Ext E st w E st w':=by
 have hold:∀ b,b<w.heap.size->w'.heap[b]? =w.heap[b]? :=fun b hb=>by rw [hh,Array.getElem?_append_left hb]
 have OP:∀ b j x,E.I b j=some x->b<w.heap.size:=by
  intro b j x hx
  have:=h.j6 b j x hx
  simp only [bM] at this
  rcases Nat.lt_or_ge b w.heap.size with hl|hl
  · exact hl
  · simp [Array.getElem?_eq_none hl] at this
 refine ⟨⟨h.ng,h.nl,h.j7,fun b j x hx=>?_,fun k o hk=>(h.obj k o hk).dZ (Env.jC (.refl E) k) (hold _ (h.lt ⟨o,hk⟩)),h.sep,h.own⟩,
  ⟨.refl E,by rw [hh];simp,fun _ _ _ h=>.inl h,fun _ h _=>h,fun k h _=>.inr ⟨k,h,rfl⟩,fun b hb _=>hold b hb,h1,h2,h3⟩⟩
 have:=h.j6 b j x hx
 simp only [bM,hold b (OP b j x hx)] at*
 exact this
theorem F0:∀ (l:List aU) (j:Nat),(l.map bE).flatten[j]? =(l[j]?).map V.s
 |[],j=>rfl
 |x::r,0=>rfl
 |x::r,j+1=>by
  show (bE x++(r.map bE).flatten)[j+1]? =_
  rw [List.getElem?_append_right (by simp [bE])]
  simp only [bE,List.length_cons,List.length_nil,Nat.zero_add,Nat.add_sub_cancel,List.getElem?_cons_succ]
  exact F0 r j
theorem Ns {E:Env} {s:aU} {x:Value} (h:Rel E (.s s) x):x=.string (str s):=by
 cases h with
 |deep hd=>cases hd;rfl
theorem V5 {E:Env} {k:Key} {sz s len:Nat} {x:Value} (h:Rel E (.ms k sz s len) x) (hl:0<len):
 ∃ cap,x=.slice (some ⟨(E.μ k).bS,(E.μ k).base+s*sz,none⟩) len cap/\E.has k/\len<=cap/\(E.μ k).base+(s+cap)*sz=(E.μ k).fin:=by
 cases h with
 |deep hd=>cases hd
 |ms _ _ _ _ a cap hk hc hf hb ha=>
  rcases ha with ha|ha
  · omega
  · subst ha
    exact ⟨cap,rfl,hk,hc,hf⟩
end Go.Eng
namespace Go.Proofs
open Go.RowKit Go.Maps Go.Sort Go.Shelf
theorem Tryz.Dp (Bm:Nat) (w:World) (Vc:Bm<w.heap.size) (hm:w.cell? ⟨Bm,0,none⟩=some (.map none)):
 Calls Tryz.prog 54 #[.func (.func 139) #[] #[.pointer (some ⟨Bm,0,none⟩)]] w fun e w'=>e=.returned (.slice none 0 0)/\Below w.heap.size w w':=by
 refine (callsIn_wide (n:=5)).1 ?_
 have Yc:SeqGives Fence.wide 2 Tryz.prog 139 #[.pointer (some ⟨Bm,0,none⟩)] encStr (fun ss=>ss=[]) 0 w:=
  AnyZ.keys_gives_nil (ρ:=Tryz.Ab) { Tryz.Sp with } Fence.wide _ trivial rfl Bm w Vc hm
 refine (AnyZ.sorted_in Tryz.Kk Fence.wide 5 trivial trivial trivial trivial rfl (by omega) (Tryz.N3 _) (enters_of Tryz.func138 (by kernel_rfl) rfl) 139 #[.pointer (some ⟨Bm,0,none⟩)] trivial (enters_of Tryz.func139 (by kernel_rfl) rfl) _ _ (Nat.zero_le _) (by omega) w Yc).mono ?_
 rintro e w' ⟨v,ss,rfl,rfl,_,hn,hb⟩
 exact ⟨by rw [hn.2 rfl],hb⟩
theorem DataW.insert_perm {H:Type} (x:Lit×DataW H):∀ l:List (Lit×DataW H),(DataW.insert x l).Perm (x::l)
 |[]=>.refl _
 |y::r=>by
  unfold DataW.insert
  split
  · exact .refl _
  · exact ((DataW.insert_perm x r).cons y).trans (.swap _ _ _)
theorem DataW.F1 {H:Type}:∀ l:List (Lit×DataW H),(l.foldr DataW.insert []).Perm l
 |[]=>.refl _
 |x::r=>(DataW.insert_perm x _).trans ((DataW.F1 r).cons x)
end Go.Proofs
namespace Go.Proofs.YtmfelikepmmjkaaGreat
open Go.Eng
theorem Lt (h:aA) (k mk:Nat) (c:List V) (es:List (V×V)) (ks:List (List UInt8)) (hc:h.get k=some (.cs c)) (hm:c[0]? =some (.m (.g mk))) (N4:h.get mk=some (.mp none es)) (hks:es.map Prod.fst=ks.map V.s) (QD:ks.Nodup)
 (hlen:∀ x∈ks,x.length<=9223372036854775807) (hn:ks.length<=1000000) (K:V->aA->Prop) (hK:K (.sl none 1 ((nA ks).map bE)) h):aC Tryz.prog 54 [.fn 139 [] [.p (.g k) 0]] h K:=by
 refine ⟨by kernel_rfl,fun E w vs tO hs hv=>?_⟩
 obtain ⟨x0,rfl,r0⟩:=G2 hv
 cases r0 with
 |deep hd=>cases hd
 |fn _ _ _ fa ca h1 h2 h3 h4=>
 have WH:fa=#[]:=by simpa using h1
 subst WH
 obtain ⟨p,rfl,rp⟩:=G2 (E:=E) (a0:=.p (.g k) 0) (vs:=ca) ⟨h2,h4⟩
 obtain ⟨hk,rfl⟩:=G3 rp
 have eO:(dP h).get (.g k)=some (.cs c):=hc
 have CL:=hs.D8 eO
 obtain ⟨y,hy,ry,fy⟩:=hs.cellOf eO hm
 have:=WG ry
 subst this
 rw [CL] at hy
 have H8:(dP h).get (.g mk)=some (.mp none es):=N4
 obtain ⟨bU,clock,q1,q2,q3,q4⟩:=hs.obj _ _ H8
 have E6:es.length=ks.length:=by simpa using congrArg List.length hks
 have lI:bU.size=ks.length:=by rw [<-E6];exact q2
 have lX:∀ (j:Nat) (x:List UInt8) (en:MapEntry),ks[j]? =some x->bU[j]? =some en->en.key=.string (str x):=by
  intro j x en hx he
  have h5:(es.map Prod.fst)[j]? =some (V.s x):=by rw [hks,List.getElem?_map,hx];rfl
  rw [List.getElem?_map] at h5
  obtain ⟨⟨qk,qv⟩,h6,h7⟩:=Option.map_eq_some_iff.1 h5
  obtain ⟨e1,_,_⟩:=q3 j (qk,qv) en h6 he
  dsimp only at h7 e1
  subst h7
  generalize hg:en.key=z at e1
  cases e1;rfl
 have Xl:bU.toList.map (·.key)=ks.map fun x=>Value.string (str x):=by
  apply List.ext_getElem?
  intro j
  rw [List.getElem?_map,List.getElem?_map]
  by_cases hj:j<ks.length
  · have hx:=List.getElem?_eq_getElem hj
    have he:bU[j]? =some bU[j]:=Array.getElem?_eq_getElem (by omega)
    have:=lX j _ _ hx he
    rw [hx,Array.getElem?_toList,he]
    simp [this]
  · rw [List.getElem?_eq_none (show bU.toList.length<=j by rw [Array.length_toList];omega),List.getElem?_eq_none (show ks.length<=j by omega)];rfl
 have RS:∀ x y:List UInt8,Value.string (str x)=Value.string (str y)->x=y:=by
  intro x y e
  simpa [str] using e
 let R:Value->Option (DataW Unit×List MemPlace):=fun _=>some (.nil,[])
 have hko:∀ x∈ks,keyOf Tryz.prog 9 (.string (str x))=some (.string x):=by
  intro x hx
  have Sn:(str x).size=x.length:=by simp [str,ByteArray.size]
  rw [Go.WideMaps.keyOf_string_mk Tryz.underlying9 (by rw [Sn];simpa [maxLen] using hlen x hx)]
  simp [str]
 have lW:∀ en∈bU.toList,∃ x∈ks,en.key=.string (str x)/\Go.WideElems.rd Tryz.prog 9 R en=some (.string x,.nil):=by
  intro en yT
  have h5:en.key∈bU.toList.map (·.key):=List.mem_map_of_mem yT
  rw [Xl] at h5
  obtain ⟨x,hx,he⟩:=List.mem_map.1 h5
  exact ⟨x,hx,he.symm,by simp [Go.WideElems.rd,<-he,hko x hx,R]⟩
 have hrg:bU.toList.map (Go.WideElems.rg Tryz.prog 9 R)=ks.map fun x=>(Lit.string x,DataW.nil):=by
  apply List.ext_getElem?
  intro j
  rw [List.getElem?_map,List.getElem?_map]
  by_cases hj:j<ks.length
  · have hx:=List.getElem?_eq_getElem hj
    have he:bU[j]? =some bU[j]:=Array.getElem?_eq_getElem (by omega)
    have h5:=lX j _ _ hx he
    rw [hx,Array.getElem?_toList,he]
    simp only [Option.map_some,Option.some.injEq]
    have h6:=hko _ (List.getElem_mem hj)
    simp [Go.WideElems.rg,Go.WideElems.rd,h5,h6,R]
  · rw [List.getElem?_eq_none (show bU.toList.length<=j by rw [Array.length_toList];omega),List.getElem?_eq_none (show ks.length<=j by omega)];rfl
 have MG:w.ownsMap Tryz.prog 9 R (E.μ (.g mk)).bS ks.length (.map ((ks.map fun x=>(Lit.string x,(DataW.nil:DataW Unit))).foldr DataW.insert [])):=by
  refine ⟨bU,clock,q1,⟨by simp only [maxLen];omega,⟨q4.1,q4.2,?_⟩,fun z hz=>?_⟩,by omega,by rw [hrg]⟩
  · rw [Xl]
    exact List.Pairwise.map _ (fun x y dJ e=>dJ (RS x y e)) QD
  · obtain ⟨x,_,_,h6⟩:=lW z hz
    exact ⟨_,h6⟩
 have Ui:=DataW.F1 (ks.map fun x=>(Lit.string x,(DataW.nil:DataW Unit)))
 have aeX:Go.Maps.size (.map ((ks.map fun x=>(Lit.string x,(DataW.nil:DataW Unit))).foldr DataW.insert []))=ks.length:=by
  have:=Ui.length_eq
  simpa [Go.Maps.size] using this
 have Vc:(E.μ (.g k)).bS<w.heap.size:=hs.lt ⟨_,eO⟩
 have EO:=Tryz.CJ (E.μ (.g k)).bS (E.μ (.g mk)).bS ks.length _ R w Vc hy MG (by rw [aeX];simp only [maxLen];omega) (by rw [aeX];omega)
 rw [CL]
 refine EO.mono ?_
 rintro e w' ⟨z,ss,rfl,Sq,dR,El,Po⟩
 have hsk:ss.Perm ks:=by
  refine Sq.trans ?_
  have:=Ui.map fun p=>Go.strOf p.1
  simpa [Go.strKeys,Go.strOf,Function.comp_def] using this
 have XD:ss.length=ks.length:=hsk.length_eq
 have Ta:ss.mergeSort (fun x y=>decide (x<=y))=nA ks:=Go.mergeSort_of_perm hsk
 rw [Ta] at dR
 have arY:(nA ks).length=ks.length:=List.length_mergeSort _
 obtain ⟨_,dR⟩:=dR
 rcases dR with ⟨hz,h0⟩|⟨gb,cap,cur,rfl,fE,ZC,NB,_,zT,Yd⟩
 · have Pm:ks=[]:=List.length_eq_zero_iff.1 (by omega)
   subst hz
   obtain ⟨E',s1,s2,s3,s4⟩:=hs.grown Po (fun b o=>none) (fun b o z hz=>by cases hz)
   refine ⟨_,_,_,E',hK,rfl,s4.trans tO,s1,s2,.deep ?_⟩
   rw [List.length_eq_zero_iff.1 (by omega:(nA ks).length=0)]
   exact fF.nW 1
 have aeY:∀ (j:Nat) (x:List UInt8),(nA ks)[j]? =some x->cur[j]? =some (.string (str x)):=by
  intro j x hx
  have hj:j<ss.length:=by have:=(List.getElem?_eq_some_iff.1 hx).1;omega
  have h5:(cur.toList.take ss.length)[j]? =some (Value.string (str x)):=by
   have h6:cur.toList.take ss.length=(nA ks).map encStr:=by simpa using Yd
   rw [h6,List.getElem?_map,hx];rfl
  rw [List.getElem?_take,if_pos hj] at h5
  simpa using h5
 obtain ⟨E',s1,s2,s3,s4⟩:=hs.grown Po (fun b o=>if b=gb then ((nA ks)[o]?).map (fun x=>Value.string (str x)) else none) (fun b o z hz=>by
  split at hz
  · rename_i hbo
    subst hbo
    obtain ⟨x,hx,rfl⟩:=Option.map_eq_some_iff.1 hz
    exact ⟨fE,by simp [bM,ZC,aeY o x hx]⟩
  · cases hz)
 refine ⟨_,_,_,E',hK,rfl,s4.trans tO,s1,s2,.deep ?_⟩
 rw [show ss.length=((nA ks).map bE).length by simp;omega]
 refine fF.sl 1 ((nA ks).map bE) gb 0 cap (fun j=>.string (str ((nA ks)[j]?.getD []))) (by simp;omega) (fun e he=>?_) (fun j d hj=>?_) (fun j d hj=>?_)
 · obtain ⟨x,_,rfl⟩:=List.mem_map.1 he;rfl
 · rw [Cs,List.getElem?_map] at hj
   obtain ⟨x,hx,rfl⟩:=Option.map_eq_some_iff.1 hj
   refine s3 gb _ _ fE ?_
   show (if gb=gb then ((nA ks)[0+j]?).map (fun x=>Value.string (str x)) else none)=_
   rw [if_pos rfl,Nat.zero_add,hx]
   rfl
 · rw [Cs,List.getElem?_map] at hj
   obtain ⟨x,hx,rfl⟩:=Option.map_eq_some_iff.1 hj
   rw [hx]
   exact .s x
theorem Nt (h:aA) (k:Nat) (c:List V) (hc:h.get k=some (.cs c)) (hm:c[0]? =some .gS) (K:V->aA->Prop) (hK:K .aS h):aC Tryz.prog 54 [.fn 139 [] [.p (.g k) 0]] h K:=by
 refine ⟨by kernel_rfl,fun E w vs tO hs hv=>?_⟩
 obtain ⟨x0,rfl,r0⟩:=G2 hv
 cases r0 with
 |deep hd=>cases hd
 |fn _ _ _ fa ca h1 h2 h3 h4=>
 have WH:fa=#[]:=by simpa using h1
 subst WH
 obtain ⟨p,rfl,rp⟩:=G2 (E:=E) (a0:=.p (.g k) 0) (vs:=ca) ⟨h2,h4⟩
 obtain ⟨hk,rfl⟩:=G3 rp
 have eO:(dP h).get (.g k)=some (.cs c):=hc
 have CL:=hs.D8 eO
 obtain ⟨y,hy,ry,fy⟩:=hs.cellOf eO hm
 have hyn:y=.map none:=by
  cases ry with
  |deep hd=>cases hd
  |gS=>rfl
 subst hyn
 rw [CL] at hy
 have Vc:(E.μ (.g k)).bS<w.heap.size:=hs.lt ⟨_,eO⟩
 have EO:=Tryz.Dp (E.μ (.g k)).bS w Vc hy
 rw [CL]
 refine EO.mono ?_
 rintro e w' ⟨rfl,Po⟩
 obtain ⟨E',s1,s2,s3,s4⟩:=hs.grown Po (fun b o=>none) (fun b o z hz=>by cases hz)
 exact ⟨_,_,_,E',hK,rfl,s4.trans tO,s1,s2,.deep .aS⟩
open Go.Eng
theorem Uj:Br Tryz.prog:=⟨Lt,Nt⟩
end Go.Proofs.YtmfelikepmmjkaaGreat
