/-
The store of many keys: whether a guard holds; whether a txn can be done.
-/
import Derived.Test.YtmfelikepmmjkaaGreatX36
import Derived.Test.YtmfelikepmmjkaaGreatX37
import Derived.Test.YtmfelikepmmjkaaGreatX34
import Derived.Test.YtmfelikepmmjkaaGreatX33
import Derived.Test.YtmfelikepmmjkaaGreatX28
import Derived.Test.YtmfelikepmmjkaaGreatX25
import Derived.Test.YtmfelikepmmjkaaGreatX23
set_option linter.unusedVariables false
set_option linter.unusedSimpArgs false
set_option maxHeartbeats 32000000
set_option maxRecDepth 20000
namespace Go.Eng
open Go
def Jk (s p:aU):Bool:=decide (p.length<=s.length)&&(s.take p.length==p)
def j4 (D:List dG) (T:List (aU×Int)) (g:QK):Bool:=
 match g.under with
 |true=>T.all fun t=>!(decide (g.rev<t.2)&&Jk t.1 g.key)
 |false=>decide (((eA D g.key).map fun e=>e.rev).getD 0=g.rev)
def xI (D:List dG) (T:List (aU×Int)) (gs:List QK) (ws:List Hv):Int:=if Cv gs ws then (if gs.all (j4 D T) then (if Dl D ws then 0 else 3) else 6) else 1
theorem TT {T:List (aU×Int)} {L1 L2:List (V×V)} {x:V×V} (h:T.map QJ=L1++x::L2):∃ T1 e T2,T=T1++e::T2/\L1=T1.map QJ/\x=(.s e.1,.i .i64 e.2)/\L2=T2.map QJ:=by
 obtain ⟨T1,r,rfl,h1,h2⟩:=List.map_eq_append_iff.1 h
 obtain ⟨e,T2,rfl,h3,h4⟩:=List.map_eq_cons_iff.1 h2
 exact ⟨T1,e,T2,rfl,h1.symm,h3.symm,h4.symm⟩
section
variable {P:Program} (hG:bP P AF.fns.get)
include hG
theorem hasp1_ok (s p:aU) (hs:s.length<=9223372036854775807) (hp:p.length<=9223372036854775807):Pure P 283 [.s s,.s p] (·=.b (Jk s p)):=by
 refine aP (hG _ AF.f283 rfl) rfl ?_
 unfold Jk
 by_cases h:p.length<=s.length
 · rw [decide_eq_true h,Bool.true_and]
   have hd:((s.take ((p.length:Nat):Int).toNat).drop (Int.toNat 0))=s.take p.length:=by rw [Int.toNat_natCast];rfl
   (refine cD (show ((s.length:Nat):Int)>=((p.length:Nat):Int) by omega) ?_)
   exact aG rfl rfl
 · rw [decide_eq_false h,Bool.false_and]
   (refine cD (show ¬((s.length:Nat):Int)>=((p.length:Nat):Int) by omega) ?_)
   exact aG rfl rfl
theorem hasp_ok (s p:aU) (hs:s.length<=9223372036854775807) (hp:p.length<=9223372036854775807):Pure P 205 [.s s,.s p] (·=.b (Jk s p)):=by
 have h:=hasp1_ok hG s p hs hp
 refine aP (hG _ AF.f205 rfl) rfl ?_
 (refine cD @h ?_)
 exact aG rfl rfl
variable (hH:C3 P 104 AF.Cw=true)
include hH
theorem gholds_at {h:aA} {a m0 m1 lg:Nat} {rl:Option Nat} {R:Int} {D:List dG} {T:List (aU×Int)} {L:List kJ} {base:Int} (hs:La h a m0 m1 lg rl R D T L base) (hT:∀ t∈T,t.1.length<=9223372036854775807) (g:QK) (hg:g.key.length<=9223372036854775807) {K:V->aA->Prop}
 (hK:K (.b (j4 D T g)) h):aC P 104 [.p (.g a) 0,.agg (y7 g)] h K:=by
 obtain ⟨rd,wr,ha⟩:=hs.ga
 have h0:=hs.g0
 have h1:=hs.g1
 obtain ⟨key,rev,un⟩:=g
 cases un
 · have DQ:=Bn key D
   unfold j4 at hK
   dsimp only at hK
   refine Xc hH rfl ?_
   cases Ut:eA D key with
   |none=>
    rw [Ut] at DQ hK
    (refine qR @DQ @ha @h0 ?_)
    exact hK
   |some e=>
    rw [Ut] at DQ hK
    (refine qR @DQ @ha @h0 ?_)
    exact hK
 · unfold j4 at hK
   dsimp only at hK
   have dJ:a≠m1:=hs.ne.2.1
   refine Xc hH rfl ?_
   (refine iG @ha @h1 ?_)
   refine VU.by (fun left fr st=>∃ (Tl:List (aU×Int)) (lo:aA),left=Tl.map QJ/\(∀ t∈Tl,t∈T)/\(T.all fun t=>!(decide (rev<t.2)&&Jk t.1 key))=(Tl.all fun t=>!(decide (rev<t.2)&&Jk t.1 key))/\lo.get 0=some (.cs [.s key,.i .i64 rev,.b true])/\
    Fr.le [(25,.p (.l 1) 0),(3,.p (.l 0) 0)] fr/\st=⟨h.remove m1,lo⟩) ⟨T,_,rfl,(fun t ht=>ht),rfl,rfl,cT,rfl⟩ ?_
   rintro left fr st ⟨Tl,lo,rfl,Lg,fH,g0,dE,rfl⟩
   refine ⟨_,dE,fun R hR=>⟨rfl,fun El=>?_,fun L1 x L2 hx=>?_⟩⟩
   · have hT:Tl=[]:=List.map_eq_nil_iff.1 El
     subst hT
     rw [fH] at hK
     refine ⟨⟨h,lo⟩,St.HG h1,?_⟩
     (refine zr ?_)
     exact hK
   · obtain ⟨T1,e,T2,rfl,rfl,rfl,rfl⟩:=TT hx
     have Dw:=Lg e (by simp)
     have hp:=hasp_ok hG e.1 key (hT e Dw) hg
     have next:(decide (rev<e.2)&&Jk e.1 key)=false->∀ cF cB,Fr.le [(25,.p (.l 1) 0),(3,.p (.l 0) 0)] cF->cB=⟨h.remove m1,lo⟩->R (T1.map QJ++T2.map QJ) cF cB:=fun hf cF cB hle mY=>
      hR _ _ _ (by simp) ⟨T1++T2,lo,by simp,(fun t ht=>Lg t (by simp at ht ⊢;rcases ht with h|h;exact .inl h;exact .inr (.inr h))),by rw [fH];simp only [List.all_append,List.all_cons,hf,Bool.not_false,Bool.true_and],g0,hle,mY⟩
     by_cases c1:e.2>rev
     · cases c2:Jk e.1 key
       · rw [c2] at hp
         (refine qR @c1 @hp @g0 ?_)
         exact next (by rw [c2,Bool.and_false]) _ _ cT rfl
       · rw [c2] at hp
         have hf:(T.all fun t=>!(decide (rev<t.2)&&Jk t.1 key))=false:=by
          rw [List.all_eq_false]
          exact ⟨e,Dw,by rw [c2,decide_eq_true (show rev<e.2 by omega)];decide⟩
         rw [hf] at hK
         (refine qR @c1 @hp @g0 ?_)
         refine ⟨⟨h,lo⟩,St.HG h1,?_⟩
         (refine zr ?_)
         exact hK
     · (refine iG @c1 @g0 ?_)
       exact next (by rw [decide_eq_false (show ¬rev<e.2 by omega),Bool.false_and]) _ _ cT rfl
theorem ucan_at {h:aA} {a m0 m1 lg:Nat} {rl:Option Nat} {R:Int} {D:List dG} {T:List (aU×Int)} {L:List kJ} {base:Int} (hs:La h a m0 m1 lg rl R D T L base) (hT:∀ t∈T,t.1.length<=9223372036854775807)
 (gs:List QK) (Nh:∀ g∈gs,g.key.length<=9223372036854775807) (Js:gs.length<=9223372036854775807) (ws:List Hv) (hw:∀ w∈ws,TH w) (hl:ws.length<=9223372036854775807) {K:V->aA->Prop}
 (hK:∀ h',aA.aJ (fun _=>False) h h'->K (.i .i64 (xI D T gs ws)) h'):
 aC P 43 [.p (.g a) 0,.agg [.sl none 3 (gs.map y7),.sl none 3 (ws.map mR)]] h K:=by
 have CS:(ws.map mR).length=ws.length:=List.length_map _
 have hgm:(gs.map y7).length=gs.length:=List.length_map _
 have Qh:=fun (K:V->aA->Prop) hK=>umay_at (K:=K) hG (h:=h) gs Nh Js ws hw hl hK
 unfold xI at hK
 refine dU (hG _ AF.f43 rfl) rfl ?_
 cases hm:Cv gs ws
 · rw [hm] at hK Qh
   (refine cD @Qh ?_)
   intro h1 k1
   (refine zr ?_)
   exact hK h1 k1
 rw [hm] at hK Qh
 simp only [if_true] at hK
 (refine cD @Qh ?_)
 intro h1 k1
 have zI:=hs.other k1 (fun _ _ x=>x)
 obtain ⟨rd,wr,ha⟩:=zI.ga
 have h0:=zI.g0
 (refine zr ?_)
 refine cS.by (fun q fr st=>∃ (j:Nat) (lo:aA),j<=gs.length/\q=gs.length - j/\gs.all (j4 D T)=(gs.drop j).all (j4 D T)/\0<lo.next/\lo.get 0=some (.cs [.sl none 3 (gs.map y7),.sl none 3 (ws.map mR)])/\
  Fr.le [(17,.i .i64 j),(16,.i .i64 (gs.map y7).length),(15,.sl none 3 (gs.map y7)),(3,.p (.l 0) 0),(0,.p (.g a) 0)] fr/\st=⟨h1,lo⟩)
  gs.length ⟨0,_,Nat.zero_le _,rfl,rfl,Nat.zero_lt_one,rfl,cT,rfl⟩ ?_
 rintro q fr st ⟨j,lo,hj,rfl,Hm,u9,g0,dE,rfl⟩
 refine ⟨_,dE,fun R0 LJ=>?_⟩
 by_cases F9:j<gs.length
 · have he:=List.getElem?_eq_getElem F9
   have pK:=Nh _ (List.getElem_mem F9)
   have AB:=List.drop_eq_getElem_cons F9
   generalize gs[j]=g at he pK AB
   rw [AB,List.all_cons] at Hm
   have hho:=fun (K:V->aA->Prop) hK=>gholds_at (K:=K) hG hH zI hT g pK hK
   have a1:∀ o,(lo.push o).get lo.next=some o:=fun o=>aA.aB _ _
   have a2:∀ o o2,((lo.push o).set lo.next o2).get lo.next=some o2:=fun o o2=>aA.aD (a1 _)
   have a3:∀ o o2,((lo.push o).set lo.next o2).get 0=some (.cs [.sl none 3 (gs.map y7),.sl none 3 (ws.map mR)]):=fun o o2=>aA.gs (by omega) (aA.gp (by omega) g0)
   cases VW:j4 D T g
   · have hgf:gs.all (j4 D T)=false:=by rw [Hm,VW];rfl
     rw [hgf] at hK
     rw [VW] at hho
     (refine IV (show (j:Int)<(gs.map y7).length by omega) @hho @he @a2 @a1 ?_)
     exact hK h1 k1
   have Qb:gs.all (j4 D T)=(gs.drop (j+1)).all (j4 D T):=by rw [Hm,VW];rfl
   rw [VW] at hho
   (refine IV (show (j:Int)<(gs.map y7).length by omega) @hho @he @a2 @a1 ?_)
   exact LJ (gs.length - (j+1)) _ _ (by omega) ⟨j+1,_,by omega,rfl,Qb,Nat.lt_succ_of_lt u9,a3 _ _,cT,rfl⟩
 obtain rfl:j=gs.length:=by omega
 rw [List.drop_length] at Hm
 rw [show gs.all (j4 D T)=true from Hm] at hK
 simp only [if_true] at hK
 clear LJ
 obtain ⟨B,hB⟩:∃ B,B=Dl D ws:=⟨_,rfl⟩
 rw [<-hB] at hK
 (refine iG (show ¬((gs.length:Nat):Int)<(gs.map y7).length by omega) @g0 ?_)
 refine cS.by (fun q fr st=>∃ (i:Nat) (lo:aA),i<=ws.length/\q=ws.length - i/\B=Dl D (ws.drop i)/\
  Fr.le [(29,.i .i64 i),(28,.i .i64 (ws.map mR).length),(27,.sl none 3 (ws.map mR)),(0,.p (.g a) 0)] fr/\st=⟨h1,lo⟩)
  ws.length ⟨0,_,Nat.zero_le _,rfl,hB,cT,rfl⟩ ?_
 rintro q fr st ⟨i,lo,hi,rfl,hc,vD,rfl⟩
 refine ⟨_,vD,fun R1 DN=>?_⟩
 by_cases cY:i<ws.length
 · have he:=List.getElem?_eq_getElem cY
   have AB:=List.drop_eq_getElem_cons cY
   generalize ws[i]=w at he AB
   rw [AB] at hc
   unfold Dl at hc
   have DQ:=Bn w.key D
   have a1:∀ o,(lo.push o).get lo.next=some o:=fun o=>aA.aB _ _
   have a2:∀ o o2,((lo.push o).set lo.next o2).get lo.next=some o2:=fun o o2=>aA.aD (a1 _)
   have a3:∀ o o2 o3,(((lo.push o).set lo.next o2).push o3).get lo.next=some o2:=fun o o2 o3=>aA.gp (by show lo.next≠lo.next+1;omega) (a2 _ _)
   have a4:∀ o o2 o3,(((lo.push o).set lo.next o2).push o3).get (lo.next+1)=some o3:=fun o o2 o3=>aA.aB _ _
   have a5:∀ o o2 o3 o4,((((lo.push o).set lo.next o2).push o3).set (lo.next+1) o4).get lo.next=some o2:=fun o o2 o3 o4=>aA.gs (by omega) (a3 _ _ _)
   have a6:∀ o o2 o3 o4,((((lo.push o).set lo.next o2).push o3).set (lo.next+1) o4).get (lo.next+1)=some o4:=fun o o2 o3 o4=>aA.aD (a4 _ _ _)
   cases pK:w.gone
   · rw [pK] at hc
     have H4:B=Dl D (ws.drop (i+1)):=by rw [hc];simp
     have dR:mR w=[.s w.key,.sl none 1 (w.val.map hM),.b false]:=by rw [<-pK];rfl
     have fE:=(aF (f:=mR) (j:=((i:Nat):Int).toNat) (by omega) he).trans (congrArg some dR)
     cases Ut:eA D w.key with
     |none=>
      rw [Ut] at DQ
      ((conv=>whnf);repeat ((first|refine aH.dt (show (i:Int)<(ws.map mR).length by omega) ?_|refine bC.no DQ ?_|refine aR.gA (by omega) (by omega) ?_|refine ye (fE) ?_|refine ye (a2 _ _) ?_|refine ye (a1 _) ?_|refine ye (a3 _ _ _) ?_|refine ye (a4 _ _ _) ?_|refine ye (a5 _ _ _ _) ?_|refine ye (a6 _ _ _ _) ?_|refine ye (ha) ?_|refine ye (h0) ?_|refine zz ?_)<;>(conv=>whnf)))
      exact DN (ws.length - (i+1)) _ _ (by omega) ⟨i+1,_,by omega,rfl,H4,cT,rfl⟩
     |some e=>
      rw [Ut] at DQ
      ((conv=>whnf);repeat ((first|refine aH.dt (show (i:Int)<(ws.map mR).length by omega) ?_|refine bC.of DQ ?_|refine aR.gA (by omega) (by omega) ?_|refine ye (fE) ?_|refine ye (a2 _ _) ?_|refine ye (a1 _) ?_|refine ye (a3 _ _ _) ?_|refine ye (a4 _ _ _) ?_|refine ye (a5 _ _ _ _) ?_|refine ye (a6 _ _ _ _) ?_|refine ye (ha) ?_|refine ye (h0) ?_|refine zz ?_)<;>(conv=>whnf)))
      exact DN (ws.length - (i+1)) _ _ (by omega) ⟨i+1,_,by omega,rfl,H4,cT,rfl⟩
   · rw [pK] at hc
     have dR:mR w=[.s w.key,.sl none 1 (w.val.map hM),.b true]:=by rw [<-pK];rfl
     have fE:=(aF (f:=mR) (j:=((i:Nat):Int).toNat) (by omega) he).trans (congrArg some dR)
     cases Ut:eA D w.key with
     |none=>
      rw [Ut] at DQ hc
      have H4:B=false:=by rw [hc];simp
      rw [H4] at hK
      ((conv=>whnf);repeat ((first|refine aH.dt (show (i:Int)<(ws.map mR).length by omega) ?_|refine bC.no DQ ?_|refine ye (fE) ?_|refine ye (a2 _ _) ?_|refine ye (a1 _) ?_|refine ye (a3 _ _ _) ?_|refine ye (a4 _ _ _) ?_|refine ye (a5 _ _ _ _) ?_|refine ye (a6 _ _ _ _) ?_|refine ye (ha) ?_|refine ye (h0) ?_|refine zz ?_)<;>(conv=>whnf)))
      exact hK h1 k1
     |some e=>
      rw [Ut] at DQ hc
      have H4:B=Dl D (ws.drop (i+1)):=by rw [hc];simp
      ((conv=>whnf);repeat ((first|refine aH.dt (show (i:Int)<(ws.map mR).length by omega) ?_|refine bC.of DQ ?_|refine aR.gA (by omega) (by omega) ?_|refine ye (fE) ?_|refine ye (a2 _ _) ?_|refine ye (a1 _) ?_|refine ye (a3 _ _ _) ?_|refine ye (a4 _ _ _) ?_|refine ye (a5 _ _ _ _) ?_|refine ye (a6 _ _ _ _) ?_|refine ye (ha) ?_|refine ye (h0) ?_|refine zz ?_)<;>(conv=>whnf)))
      exact DN (ws.length - (i+1)) _ _ (by omega) ⟨i+1,_,by omega,rfl,H4,cT,rfl⟩
 · obtain rfl:i=ws.length:=by omega
   rw [List.drop_length] at hc
   rw [show B=true from hc] at hK
   (refine cD (show ¬((ws.length:Nat):Int)<(ws.map mR).length by omega) ?_)
   exact hK h1 k1
end
open Go
theorem Qi {gs:List QK} {ws:List Hv} (h:Cv gs ws=true):(1<=ws.length/\ws.length<=64)/\∀ w∈ws,W7 w:=by
 unfold Cv at h
 simp only [Bool.and_eq_true,decide_eq_true_eq] at h
 exact ⟨⟨h.2.1,h.2.2.1⟩,Ct h.2.2.2.2⟩
section
variable {P:Program} (hG:bP P AF.fns.get) (hH:C3 P 104 AF.Cw=true)
include hG hH
theorem utxn_at (hA:Hx P) {h:aA} {a m0 m1 lg:Nat} {rl:Option Nat} {R:Int} {D:List dG} {T:List (aU×Int)} {L:List kJ} {base:Int} (hs:La h a m0 m1 lg rl R D T L base) (hbd:∀ x∈L,base<x.e.rev/\x.e.rev<=R) (hbR:base<=R) (hR:0<=R/\R<=4611686018427387904) (hn:L.length<=64)
 (hT:∀ t∈T,t.1.length<=9223372036854775807) (gs:List QK) (Nh:∀ g∈gs,g.key.length<=9223372036854775807) (Js:gs.length<=9223372036854775807) (ws:List Hv) (hw:∀ w∈ws,TH w) (hl:ws.length<=9223372036854775807) {K:V->aA->Prop}
 (pH:xI D T gs ws≠0->∀ h',La h' a m0 m1 lg rl R D T L base->aA.aJ (Hw a m0 m1 lg rl) h h'->K (.bY [.i .i64 0,.i .i64 (xI D T gs ws)]) h')
 (hK:xI D T gs ws=0->∀ h' Z0 qY,base<=qY->qY<=R+1->La h' a m0 m1 lg Z0 (R+1) ((AD (R+1) ws).foldl kM D) (xD T (R+1) ws) ((L++AD (R+1) ws).filter fun x=>decide (qY<x.e.rev)) qY->((L++AD (R+1) ws).filter fun x=>decide (qY<x.e.rev)).length<=64->
   (∀ k,Z0=some k->rl=some k\/h.next<=k)->aA.aJ (Hw a m0 m1 lg rl) h h'->K (.bY [.i .i64 (R+1),.i .i64 0]) h'):
 aC P 10 [.p (.g a) 0,.agg [.sl none 3 (gs.map y7),.sl none 3 (ws.map mR)]] h K:=by
 have CS:(ws.map mR).length=ws.length:=List.length_map _
 obtain ⟨rd,wr,ha⟩:=hs.ga
 obtain ⟨l1,l2,l3⟩:=hs.lt
 obtain ⟨n1,n2,n3,n4,n5,n6⟩:=hs.ne
 have uC:uA [.p (.g a) 5,.i .i64 1] h=some (.i .i64 (IntKind.i64.wrap (wr+1)),h.set a (.cs [.i .i64 R,.m (.g m0),.m (.g m1),.p (.g lg) 0,.i .i64 rd,.i .i64 (IntKind.i64.wrap (wr+1))])):=by simp only [uA,ha];rfl
 generalize IntKind.i64.wrap (wr+1)=w2 at uC
 obtain ⟨h1,GJ⟩:∃ h1:aA,h1=h.set a (.cs [.i .i64 R,.m (.g m0),.m (.g m1),.p (.g lg) 0,.i .i64 rd,.i .i64 w2]):=⟨_,rfl⟩
 have WZ:h1.get a=some (.cs [.i .i64 R,.m (.g m0),.m (.g m1),.p (.g lg) 0,.i .i64 rd,.i .i64 w2]):=by rw [GJ];exact aA.aD ha
 have k1:aA.aJ (fun n=>n=a) h h1:=by rw [GJ];exact aA.aJ.set (b:=fun n=>n=a) (.refl _ _) (.inl rfl) _
 have zI:La h1 a m0 m1 lg rl R D T L base:=⟨⟨by rw [GJ];exact l1,by rw [GJ];exact l2,by rw [GJ];exact l3⟩,hs.ne,hs.nr,⟨rd,w2,WZ⟩,(k1.same m0 l2 n1.symm).trans hs.g0,(k1.same m1 l3 n2.symm).trans hs.g1,hs.log.dZ k1 n4.symm (fun k hk=>(hs.nr k hk).1)⟩
 have Ps:=fun (K:V->aA->Prop) hK=>ucan_at (K:=K) hG hH zI hT gs Nh Js ws hw hl hK
 rw [GJ] at Ps
 by_cases he:xI D T gs ws=0
 case neg=>
  refine dU (hG _ AF.f10 rfl) rfl ?_
  (refine qR (hA _ _ _ _ uC) @Ps @ha ?_)
  rw [<-GJ]
  intro h2 k2
  (refine cD @he ?_)
  exact pH he h2 (zI.other k2 (fun _ _ x=>x)) ((k1.mono fun _ _ e=>.inl e).trans (k2.mono fun _ _ e=>e.elim))
 have LH:Cv gs ws=true:=by
  unfold xI at he
  cases hm:Cv gs ws with
  |true=>rfl
  |false=>rw [hm] at he;simp at he
 obtain ⟨⟨QH,aq5⟩,UE⟩:=Qi LH
 refine dU (hG _ AF.f10 rfl) rfl ?_
 rw [he] at Ps
 (refine qR (hA _ _ _ _ uC) @Ps @ha ?_)
 rw [<-GJ]
 intro h2 k2
 have Nf:=zI.other k2 (fun _ _ x=>x)
 have PV:h2.get a=some (.cs [.i .i64 R,.m (.g m0),.m (.g m1),.p (.g lg) 0,.i .i64 rd,.i .i64 w2]):=(k2.same a zI.lt.1 (fun x=>x)).trans WZ
 have VA:aA.aJ (fun n=>n=a\/n=m0\/n=m1) h h2:=(k1.mono fun _ _ e=>.inl e).trans (k2.mono fun _ _ e=>e.elim)
 have p1:∀ x,(h2.set a x).get a=some x:=fun x=>aA.aD PV
 (refine iG @PV @p1 ?_)
 refine cS.by (fun q fr st=>∃ (i:Nat) (hh lo:aA) (ev:V),i<=ws.length/\q=ws.length - i/\hh.get a=some (.cs [.i .i64 (R+1),.m (.g m0),.m (.g m1),.p (.g lg) 0,.i .i64 rd,.i .i64 w2])/\
  hh.get m0=some (.mp none (((AD (R+1) (ws.take i)).foldl kM D).map K1))/\hh.get m1=some (.mp none ((xD T (R+1) (ws.take i)).map QJ))/\aA.aJ (fun n=>n=a\/n=m0\/n=m1) h hh/\
  ((i=0/\ev=.aS)\/(0<i/\∃ t,ev=.sl (some (.l t)) 4 ((AD (R+1) (ws.take i)).map lU)/\t<lo.next/\lo.get t=some .spare))/\
  Fr.le [(32,.i .i64 i),(31,.i .i64 (ws.map mR).length),(30,.sl none 3 (ws.map mR)),(7,ev),(0,.p (.g a) 0)] fr/\st=⟨hh,lo⟩)
  ws.length ⟨0,_,_,.aS,Nat.zero_le _,rfl,p1 _,aA.gs n1.symm Nf.g0,aA.gs n2.symm Nf.g1,aA.aJ.set (b:=fun n=>n=a\/n=m0\/n=m1) VA (.inl (.inl rfl)) _,.inl ⟨rfl,rfl⟩,cT,rfl⟩ ?_
 rintro q fr st ⟨i,hh,lo,ev,hi,rfl,ga,g0,g1,hk,uT,dE,rfl⟩
 refine ⟨_,dE,fun R1 DN=>?_⟩
 by_cases cY:i<ws.length
 · have hx:=List.getElem?_eq_getElem cY
   have yK:=UE _ (List.getElem_mem cY)
   generalize ws[i]=w at hx yK
   have jM:ws.take (i+1)=ws.take i++[w]:=by rw [List.take_add_one,hx];rfl
   have Nl:AD (R+1) (ws.take (i+1))=AD (R+1) (ws.take i)++[⟨⟨w.key,R+1,w.val⟩,w.gone⟩]:=by rw [jM];unfold AD;simp
   have mY:(AD (R+1) (ws.take (i+1))).foldl kM D=kM ((AD (R+1) (ws.take i)).foldl kM D) ⟨⟨w.key,R+1,w.val⟩,w.gone⟩:=by rw [Nl,List.foldl_append];rfl
   have hts:xD T (R+1) (ws.take (i+1))=Jc (xD T (R+1) (ws.take i)) w.key (R+1):=by rw [jM];unfold xD;rw [List.foldl_append];rfl
   have LH:=Oy w.key (R+1) (xD T (R+1) (ws.take i))
   rw [<-hts] at LH
   have ad5:((AD (R+1) (ws.take i)).map lU).length<=100:=by unfold AD;simp;omega
   generalize xD T (R+1) (ws.take i)=T1 at g1 LH
   generalize (AD (R+1) (ws.take i)).foldl kM D=D1 at g0 mY
   have Qa:=scop_ok hG ⟨w.key,R+1,w.val⟩ ⟨by have:=yK.val;show w.val.length*1<=_;omega,by have:=yK.key;show w.key.length<=_;omega⟩
   have a1:∀ o,(lo.push o).get lo.next=some o:=fun o=>aA.aB _ _
   have a2:∀ o o2,((lo.push o).set lo.next o2).get lo.next=some o2:=fun o o2=>aA.aD (a1 _)
   have a3:∀ o o2 x,(((lo.push o).set lo.next o2).push x).get lo.next=some o2:=fun o o2 x=>aA.gp (by show lo.next≠lo.next+1;omega) (a2 _ _)
   have b1:∀ x,(hh.set m1 x).get a=some (.cs [.i .i64 (R+1),.m (.g m0),.m (.g m1),.p (.g lg) 0,.i .i64 rd,.i .i64 w2]):=fun x=>aA.gs n2 ga
   have b2:∀ x,(hh.set m1 x).get m0=some (.mp none (D1.map K1)):=fun x=>aA.gs n3 g0
   have b3:∀ x y,((hh.set m1 x).set m0 y).get a=some (.cs [.i .i64 (R+1),.m (.g m0),.m (.g m1),.p (.g lg) 0,.i .i64 rd,.i .i64 w2]):=fun x y=>aA.gs n1 (b1 x)
   have b4:∀ x y,((hh.set m1 x).set m0 y).get m0=some y:=fun x y=>aA.aD (b2 x)
   have b5:∀ x y,((hh.set m1 x).set m0 y).get m1=some x:=fun x y=>aA.gs n3.symm (aA.aD g1)
   have kk:∀ x y,aA.aJ (fun n=>n=a\/n=m0\/n=m1) h ((hh.set m1 x).set m0 y):=fun x y=>aA.aJ.set (b:=fun n=>n=a\/n=m0\/n=m1) (aA.aJ.set (b:=fun n=>n=a\/n=m0\/n=m1) hk (.inl (.inr (.inr rfl))) _) (.inl (.inr (.inl rfl))) _
   cases pK:w.gone
   · have dR:mR w=[.s w.key,.sl none 1 (w.val.map hM),.b false]:=by rw [<-pK];rfl
     have fE:=(aF (f:=mR) (j:=((i:Nat):Int).toNat) (by omega) hx).trans (congrArg some dR)
     rw [pK] at mY Nl
     have N4:=Ow ⟨w.key,R+1,w.val⟩ D1
     have Zc:sK D1 ⟨w.key,R+1,w.val⟩=(AD (R+1) (ws.take (i+1))).foldl kM D:=mY.symm
     rw [Zc] at N4
     rcases uT with ⟨Ds,rfl⟩|⟨Ds,t,rfl,Jy,yU⟩
     · ((conv=>whnf);repeat ((first|refine aH.dt (show (i:Int)<(ws.map mR).length by omega) ?_|refine cA (Pure.go Qa rfl) ?_|refine aR.gA (by omega) (by omega) ?_|refine ye (fE) ?_|refine ye (a2 _ _) ?_|refine ye (a1 _) ?_|refine ye (a3 _ _ _) ?_|refine ye (ga) ?_|refine ye (g0) ?_|refine ye (g1) ?_|refine ye (b1 _) ?_|refine ye (b2 _) ?_|refine ye (b3 _ _) ?_|refine ye (b4 _ _) ?_|refine zz ?_)<;>(conv=>whnf)))
       refine DN (ws.length - (i+1)) _ _ (by omega) ⟨i+1,_,_,.sl (some (.l (lo.next+1+1))) 4 [[.i .i64 (R+1),.s w.key,.sl none 1 (w.val.map hM),.b false]],by omega,rfl,b3 _ _,?_,?_,kk _ _,?_,cT,rfl⟩
       · exact (b4 _ _).trans (congrArg (fun x=>some (Obj.mp none x)) N4)
       · exact (b5 _ _).trans (congrArg (fun x=>some (Obj.mp none x)) LH)
       · refine .inr ⟨by omega,lo.next+1+1,?_,Nat.lt_succ_self _,aA.aB _ _⟩
         rw [Nl,Ds];rfl
     · have p0:∀ o o2,(((lo.push o).set lo.next o2).push .spare).get t=some .spare:=fun o o2=>aA.gp (by show t≠lo.next+1;omega) (aA.gs (by omega) (aA.gp (by omega) yU))
       ((conv=>whnf);repeat ((first|refine aH.dt (show (i:Int)<(ws.map mR).length by omega) ?_|refine cA (Pure.go Qa rfl) ?_|refine aR.gA (by omega) (by omega) ?_|refine aM.mk (by simp [bT] at ad5 ⊢;omega) ?_|refine ye (fE) ?_|refine ye (a2 _ _) ?_|refine ye (a1 _) ?_|refine ye (a3 _ _ _) ?_|refine ye (ga) ?_|refine ye (g0) ?_|refine ye (g1) ?_|refine ye (b1 _) ?_|refine ye (b2 _) ?_|refine ye (b3 _ _) ?_|refine ye (b4 _ _) ?_|refine ye (p0 _ _) ?_|refine zz ?_)<;>(conv=>whnf)))
       refine DN (ws.length - (i+1)) _ _ (by omega) ⟨i+1,_,_,.sl (some (.l (lo.next+1+1))) 4 ((AD (R+1) (ws.take i)).map lU++[[.i .i64 (R+1),.s w.key,.sl none 1 (w.val.map hM),.b false]]),by omega,rfl,b3 _ _,?_,?_,kk _ _,?_,cT,rfl⟩
       · exact (b4 _ _).trans (congrArg (fun x=>some (Obj.mp none x)) N4)
       · exact (b5 _ _).trans (congrArg (fun x=>some (Obj.mp none x)) LH)
       · refine .inr ⟨by omega,lo.next+1+1,?_,Nat.lt_succ_self _,aA.aB _ _⟩
         rw [Nl,List.map_append];rfl
   · have dR:mR w=[.s w.key,.sl none 1 (w.val.map hM),.b true]:=by rw [<-pK];rfl
     have fE:=(aF (f:=mR) (j:=((i:Nat):Int).toNat) (by omega) hx).trans (congrArg some dR)
     rw [pK] at mY Nl
     have N4:=Ox w.key D1
     have Zc:Di D1 w.key=(AD (R+1) (ws.take (i+1))).foldl kM D:=mY.symm
     rw [Zc] at N4
     rcases uT with ⟨Ds,rfl⟩|⟨Ds,t,rfl,Jy,yU⟩
     · ((conv=>whnf);repeat ((first|refine aH.dt (show (i:Int)<(ws.map mR).length by omega) ?_|refine aR.gA (by omega) (by omega) ?_|refine ye (fE) ?_|refine ye (a2 _ _) ?_|refine ye (a1 _) ?_|refine ye (a3 _ _ _) ?_|refine ye (ga) ?_|refine ye (g0) ?_|refine ye (g1) ?_|refine ye (b1 _) ?_|refine ye (b2 _) ?_|refine ye (b3 _ _) ?_|refine ye (b4 _ _) ?_|refine zz ?_)<;>(conv=>whnf)))
       refine DN (ws.length - (i+1)) _ _ (by omega) ⟨i+1,_,_,.sl (some (.l (lo.next+1+1))) 4 [[.i .i64 (R+1),.s w.key,.sl none 1 (w.val.map hM),.b true]],by omega,rfl,b3 _ _,?_,?_,kk _ _,?_,cT,rfl⟩
       · exact (b4 _ _).trans (congrArg (fun x=>some (Obj.mp none x)) N4)
       · exact (b5 _ _).trans (congrArg (fun x=>some (Obj.mp none x)) LH)
       · refine .inr ⟨by omega,lo.next+1+1,?_,Nat.lt_succ_self _,aA.aB _ _⟩
         rw [Nl,Ds];rfl
     · have p0:∀ o o2,(((lo.push o).set lo.next o2).push .spare).get t=some .spare:=fun o o2=>aA.gp (by show t≠lo.next+1;omega) (aA.gs (by omega) (aA.gp (by omega) yU))
       ((conv=>whnf);repeat ((first|refine aH.dt (show (i:Int)<(ws.map mR).length by omega) ?_|refine aR.gA (by omega) (by omega) ?_|refine aM.mk (by simp [bT] at ad5 ⊢;omega) ?_|refine ye (fE) ?_|refine ye (a2 _ _) ?_|refine ye (a1 _) ?_|refine ye (a3 _ _ _) ?_|refine ye (ga) ?_|refine ye (g0) ?_|refine ye (g1) ?_|refine ye (b1 _) ?_|refine ye (b2 _) ?_|refine ye (b3 _ _) ?_|refine ye (b4 _ _) ?_|refine ye (p0 _ _) ?_|refine zz ?_)<;>(conv=>whnf)))
       refine DN (ws.length - (i+1)) _ _ (by omega) ⟨i+1,_,_,.sl (some (.l (lo.next+1+1))) 4 ((AD (R+1) (ws.take i)).map lU++[[.i .i64 (R+1),.s w.key,.sl none 1 (w.val.map hM),.b true]]),by omega,rfl,b3 _ _,?_,?_,kk _ _,?_,cT,rfl⟩
       · exact (b4 _ _).trans (congrArg (fun x=>some (Obj.mp none x)) N4)
       · exact (b5 _ _).trans (congrArg (fun x=>some (Obj.mp none x)) LH)
       · refine .inr ⟨by omega,lo.next+1+1,?_,Nat.lt_succ_self _,aA.aB _ _⟩
         rw [Nl,List.map_append];rfl
 · obtain rfl:i=ws.length:=by omega
   rw [List.take_length] at g0 g1 uT
   rcases uT with ⟨Ds,rfl⟩|⟨Ds,t,rfl,Jy,yU⟩
   · omega
   have ajV:Dk hh lg rl L base R:=hs.log.dZ hk (by rintro (e|e|e);exact n4 e.symm;exact n5 e.symm;exact n6 e.symm) (fun k iT=>by obtain ⟨r1,r2,r3⟩:=hs.nr k iT;rintro (e|e|e);exact r1 e;exact r2 e;exact r3 e)
   have nQ:(AD (R+1) ws).length=ws.length:=by unfold AD;simp
   have ad6:=fun (K:V->aA->Prop) hK=>ladd_at (K:=K) hG ajV hbd hbR (AD (R+1) ws) (by omega) (fun x hx=>by
    obtain ⟨w,JI,rfl⟩:=List.mem_map.1 hx
    have:=UE w JI
    exact ⟨by have:=this.val;show w.val.length*1<=_;omega,by have:=this.key;show w.key.length<=_;omega⟩) (R:=R+1) (fun x hx=>by
    obtain ⟨w,JI,rfl⟩:=List.mem_map.1 hx
    rfl) (by omega) (by omega) (by omega) hK
   (refine qR (show ¬((ws.length:Nat):Int)<(ws.map mR).length by omega) @ad6 @ga ?_)
   intro h3 Z0 qY hl3 Jr F5 ajW L0 Y1
   have W6:=hk.next
   have Zd:∀ n,n<hh.next->n≠lg->(∀ k,rl=some k->n≠k)->h3.get n=hh.get n:=fun n LD Xv XI=>Y1.same n LD (by rintro (e|e);exact Xv e;exact XI n e rfl)
   have ga3:=(Zd a (by omega) n4 (fun k iT=>((hs.nr k iT).1).symm)).trans ga
   have g03:=(Zd m0 (by omega) n5 (fun k iT=>((hs.nr k iT).2.1).symm)).trans g0
   have g13:=(Zd m1 (by omega) n6 (fun k iT=>((hs.nr k iT).2.2).symm)).trans g1
   have aq7:=Y1.next
   (refine cD @ga3 ?_)
   refine hK he h3 Z0 qY Jr F5 ⟨⟨by omega,by omega,by omega⟩,hs.ne,fun k iT=>?_,⟨rd,w2,ga3⟩,g03,g13,hl3⟩ ajW (fun k iT=>?_) ?_
   · rcases L0 k iT with e|e
     · exact hs.nr k e
     · exact ⟨by omega,by omega,by omega⟩
   · rcases L0 k iT with e|e
     · exact .inl e
     · exact .inr (by omega)
   · exact (hk.mono fun n _ e=>by rcases e with e|e|e;exact .inl e;exact .inr (.inl e);exact .inr (.inr (.inl e))).trans (Y1.mono fun n _ e=>by rcases e with e|e;exact .inr (.inr (.inr (.inl e)));exact .inr (.inr (.inr (.inr e))))
end
open Go
def pJ (h:aA) (a:Nat) (m bad:Bool):Prop:=a<h.next/\h.get a=some (.cs (tv m++[.aS,.b bad]))
theorem Ze (m:Bool) (x y z:V):dT (tv m++[x,y]) (0+298) [z]=tv m++[x,z]:=by
 show List.set _ _ _=_
 rw [List.set_append_right _ _ (by rw [pB];omega),pB];rfl
theorem VX (m:Bool) (x y z:V):pV (tv m++[x,y]) (0+298) [z]=true:=decide_eq_true (by rw [List.length_append,pB];simp)
section
variable {P:Program} (hG:bP P AF.fns.get)
include hG
theorem lH {h:aA} {a:Nat} {m bad:Bool} (hr:pJ h a m bad) (size:Nat) (hs:0<size) {K:V->aA->Prop}
 (hK:∀ h',pJ h' a m true->aA.aJ (fun n=>n=a) h h'->K (.i .i64 0) h'):aC P 127 [.p (.g a) 0,.i .i64 size] h K:=by
 obtain ⟨WX,ga⟩:=hr
 refine aQ (hG _ AF.f127 rfl) rfl ?_
 ((conv=>whnf);repeat ((first|refine bC.of (mL _ _ _) ?_|refine aH.dt (show (0:Int)<(size:Int) by omega) ?_|refine aM.mk (VX _ _ _ _) ?_|refine ye (congrArg some (Ze _ _ _ _)) ?_|refine aM.mk (yG _ _ _ _) ?_|refine ye (congrArg some (Hk _ _ _ _)) ?_|refine ye (ga) ?_|refine ye (aA.aD ga) ?_|refine zz ?_)<;>(conv=>whnf)))
 exact hK _ ⟨WX,aA.aD (aA.aD ga)⟩ (aA.aJ.set (b:=fun n=>n=a) (aA.aJ.set (b:=fun n=>n=a) (.refl _ _) (.inl rfl) _) (.inl rfl) _)
theorem Qj (eN:dQ P 285) {h:aA} {a:Nat} {m bad:Bool} (hr:pJ h a m bad) {K:V->aA->Prop}
 (hK:∀ h',pJ h' a true bad->aA.aJ (fun n=>n=a) h h'->K (.bY []) h'):aC P 211 [.p (.g a) 0] h K:=
 tmake_at hG eN hr.1 hr.2 fun h' q1 q2=>hK h' ⟨Nat.lt_of_lt_of_le hr.1 q2.1,q1⟩ q2
theorem Cx (eN:dQ P 285) {h:aA} {a:Nat} {m bad:Bool} (hr:pJ h a m bad) {K:V->aA->Prop}
 (hK:∀ h',pJ h' a true true->aA.aJ (fun n=>n=a) h h'->K (.s []) h'):aC P 128 [.p (.g a) 0] h K:=by
 have YD:=fun K hK=>Qj (K:=K) hG eN hr hK
 refine aQ (hG _ AF.f128 rfl) rfl ?_
 (refine cD @YD ?_)
 intro h1 r1 k1
 have Dd:=fun K hK=>lH (K:=K) hG r1 8 (by omega) hK
 (refine cD @Dd ?_)
 intro h2 r2 k2
 have hrn:=fun K hK=>Oo (K:=K) hG (h:=h2) hK
 ((conv=>whnf);repeat ((first|refine aR.of (by decide) (by decide) ?_|refine b8.un ?_|refine cA (hrn _) ?_|refine zz ?_)<;>(conv=>whnf)))
 exact hK h2 r2 (k1.trans k2)
theorem uU {h:aA} {a:Nat} {m bad:Bool} (hr:pJ h a m bad) {K:V->aA->Prop}
 (hK:∀ h',pJ h' a m true->aA.aJ (fun n=>n=a) h h'->K (.i .i64 0) h'):aC P 130 [.p (.g a) 0,.i .i64 1] h K:=by
 have h1:=fun K hK=>lH (K:=K) hG hr 1 (by omega) hK
 refine aQ (hG _ AF.f130 rfl) rfl ?_
 (refine cD @h1 ?_)
 intro h2 r2 k2
 (refine iG @mL @r2.2 ?_)
 exact hK h2 r2 k2
theorem TU {h:aA} {a:Nat} {m:Bool} (hr:pJ h a m true) {K:V->aA->Prop} (hK:K (.b false) h):aC P 135 [.p (.g a) 0] h K:=by
 refine aQ (hG _ AF.f135 rfl) rfl ?_
 (refine qR @To @mL @hr.2 ?_)
 exact hK
theorem TV {h:aA} {a:Nat} {m bad:Bool} (hr:pJ h a m bad) {K:V->aA->Prop}
 (hK:∀ h',pJ h' a m true->aA.aJ (fun n=>n=a) h h'->K (.agg [.i .i64 0,.i .i64 0,.i .i64 0]) h'):aC P 129 [.p (.g a) 0] h K:=by
 have h1:=fun K hK=>lH (K:=K) hG hr 4 (by omega) hK
 refine aQ (hG _ AF.f129 rfl) rfl ?_
 ((conv=>whnf);repeat ((first|refine b8.un ?_|refine cA (h1 _) ?_|refine zz ?_)<;>(conv=>whnf)))
 intro h2 r2 k2
 have h3:=fun K hK=>lH (K:=K) hG r2 4 (by omega) hK
 ((conv=>whnf);repeat ((first|refine b8.un ?_|refine cA (h3 _) ?_|refine zz ?_)<;>(conv=>whnf)))
 intro h4 r4 k4
 have h5:=fun K hK=>lH (K:=K) hG r4 4 (by omega) hK
 ((conv=>whnf);repeat ((first|refine b8.un ?_|refine cA (h5 _) ?_|refine zz ?_)<;>(conv=>whnf)))
 intro h6 r6 k6
 ((conv=>whnf);repeat ((first|refine b8.un ?_|refine zz ?_)<;>(conv=>whnf)))
 exact hK h6 r6 ((k2.trans k4).trans k6)
theorem Nn {h:aA} {a:Nat} {m bad:Bool} (hr:pJ h a m bad) {K:V->aA->Prop}
 (hK:∀ h',pJ h' a m true->aA.aJ (fun n=>n=a) h h'->K .aS h'):aC P 131 [.p (.g a) 0,.fn 132 [] []] h K:=by
 have h1:=fun K hK=>uU (K:=K) hG hr hK
 refine aQ (hG _ AF.f131 rfl) rfl ?_
 (refine cD @h1 ?_)
 intro h2 r2 k2
 ((conv=>whnf);repeat ((first|refine b8.un ?_|refine zz ?_)<;>(conv=>whnf)))
 exact hK h2 r2 k2
theorem Av {h:aA} {a:Nat} {m bad:Bool} (hr:pJ h a m bad) {K:V->aA->Prop}
 (hK:∀ h',pJ h' a m true->aA.aJ (fun n=>n=a) h h'->K .aS h'):aC P 133 [.p (.g a) 0] h K:=by
 have h1:=fun K hK=>uU (K:=K) hG hr hK
 refine aQ (hG _ AF.f133 rfl) rfl ?_
 (refine cD @h1 ?_)
 intro h2 r2 k2
 ((conv=>whnf);repeat ((first|refine b8.un ?_|refine zz ?_)<;>(conv=>whnf)))
 exact hK h2 r2 k2
theorem TW {h:aA} {K:V->aA->Prop} (hK:∀ h',pJ h' h.next false false->aA.aJ (fun _=>False) h h'->K (.p (.g h.next) 0) h'):aC P 126 [.aS] h K:=by
 refine aQ (hG _ AF.f126 rfl) rfl ?_
 (refine cD (aQ (hG _ AF.f105 rfl) rfl) ?_)
 exact hK _ ⟨Nat.lt_succ_self _,aA.aB _ _⟩ (.push (.refl _ _) _)
theorem TX (eN:dQ P 285) {h:aA} {K:V->aA->Prop} (hK:∀ h',aA.aJ (fun _=>False) h h'->K (.bY [.agg KY,.b false]) h'):aC P 53 [.aS] h K:=by
 have yR:=fun K hK=>TW (K:=K) hG (h:=h) hK
 refine dU (hG _ AF.f53 rfl) rfl ?_
 (refine cD @yR ?_)
 intro hA rA kA
 have c0:=fun K hK=>lH (K:=K) hG rA 1 (by omega) hK
 (refine cD @c0 ?_)
 intro h0 r0 k0
 have c1:=fun K hK=>Cx (K:=K) hG eN r0 hK
 (refine cD @c1 ?_)
 intro h1 r1 k1
 have c2:=fun K hK=>lH (K:=K) hG r1 8 (by omega) hK
 (refine cD @c2 ?_)
 intro h2 r2 k2
 have c3:=fun K hK=>lH (K:=K) hG r2 2 (by omega) hK
 (refine cD @c3 ?_)
 intro h3 r3 k3
 have c4:=fun K hK=>TV (K:=K) hG r3 hK
 (refine cD @c4 ?_)
 intro h4 r4 k4
 have c5:=fun K hK=>uU (K:=K) hG r4 hK
 (refine cD @c5 ?_)
 intro h5 r5 k5
 have c6:=fun K hK=>Nn (K:=K) hG r5 hK
 ((conv=>whnf);repeat ((first|refine cS.un rfl ?_|refine cA (c6 _) ?_|refine zz ?_)<;>(conv=>whnf)))
 intro h6 r6 k6
 have c7:=fun K hK=>Av (K:=K) hG r6 hK
 (refine cD @c7 ?_)
 intro h7 r7 k7
 have c8:=fun K hK=>uU (K:=K) hG r7 hK
 (refine cD @c8 ?_)
 intro h8 r8 k8
 have c9:=fun K hK=>Cx (K:=K) hG eN r8 hK
 ((conv=>whnf);repeat ((first|refine cS.un rfl ?_|refine cA (c9 _) ?_|refine zz ?_)<;>(conv=>whnf)))
 intro h9 r9 k9
 have W1:=fun K hK=>Av (K:=K) hG r9 hK
 (refine cD @W1 ?_)
 intro GM r10 k10
 have ZT:=fun K hK=>lH (K:=K) hG r10 1 (by omega) hK
 (refine cD @ZT ?_)
 intro LI r11 YH
 have ZO:=fun K hK=>Av (K:=K) hG r11 hK
 (refine cD @ZO ?_)
 intro Jx r12 VA
 have ZP:=fun K hK=>Cx (K:=K) hG eN r12 hK
 (refine cD @ZP ?_)
 intro Vy r13 k13
 have ZQ:=fun K hK=>lH (K:=K) hG r13 8 (by omega) hK
 (refine cD @ZQ ?_)
 intro ZM r14 VB
 have ZR:=fun K hK=>TU (K:=K) hG r14 hK
 (refine cD @ZR ?_)
 have kk:=(((((((((((((k0.trans k1).trans k2).trans k3).trans k4).trans k5).trans k6).trans k7).trans k8).trans k9).trans k10).trans YH).trans VA).trans k13).trans VB
 have FD:aA.aJ (fun _=>False) h ZM:=(aA.aJ.trans (b:=fun n=>n=h.next) (kA.mono fun _ _ e=>e.elim) kk).mono fun n hn e=>absurd hn (by omega)
 exact hK _ FD
end
open Go
def rE (rev term:Int) (e n:dG):List QK:=[⟨oT,term,false⟩,⟨e.key,e.rev,false⟩,⟨n.key,n.rev,false⟩,⟨[112,47],rev,true⟩,⟨[110,47],rev,true⟩]
def kO (x:dG):Hv:=⟨x.key,[],true⟩
def xJ (x:dG):List V:=[.s x.key,.aS,.b true]
def sO (e:dG) (p:aL):Hv:=⟨e.key,bZ p,false⟩
theorem OG:∀ X:List dG,Df (X.map xJ) ((X.map kO).map mR)
 |[]=>.nil
 |_::r=>.cons (.cons (.refl _) (.cons (.nil _) (.cons (.refl _) .nil))) (OG r)
theorem Lh:∀ l:List V,N7 l l
 |[]=>.nil
 |_::r=>.cons (.refl _) (Lh r)
theorem oU {fr:Fr} {st:St} {k t:Nat} {j:Key} {c cs:List V} {v:V} {b:Bool} (h1:fr.get k=.p j 0) (h2:st.get j=some (.cs c)) (h3:dS c 0 (some 2)=some v) (h5:v.pass=some (.agg cs)) (h4:fr.get t=.b b):eX fr st [.cell k (some 2),.t t]=some (.bY [.agg cs,.b b]):=by
 have e1:sD fr st (.cell k (some 2))=some (.agg cs):=by
  unfold sD
  simp only [h1,h2,h3,h5]
 have e2:sD fr st (.t t)=some (.b b):=by
  show (fr.get t).pass=_
  rw [h4];rfl
 unfold eX
 simp only [nO,e1,e2]
section
variable {P:Program} (hG:bP P AF.fns.get)
include hG
theorem Qk (eN:dQ P 285) {h:aA} {L:List dG} (hl:L.length<=100000) (rev:Int) (pT node:aU) (hp:pT.length<=12) (Jg:bI pT=false) (hn:node.length<=12) (ad7:bI node=true->∃ n,findD L (dK node)=some n) (vs:List aU) (term:Int) {K:V->aA->Prop}
 (hK:∀ h',aA.aJ (fun _=>False) h h'->K (.bY [.agg [.aS,.aS],.b false]) h'):aC P 14 [.sl none 3 (L.map lG),.i .i64 rev,.agg [.s pT,.s node,.sl none 1 (vs.map bE)],.i .i64 term] h K:=by
 have BP:=fun K hK=>VM (K:=K) hG (h:=h) pT (by omega) Jg hK
 have Zf:=fun K hK=>find_at (K:=K) hG (h:=h) hl [] hK
 refine dU (hG _ AF.f14 rfl) rfl ?_
 (refine iG @BP @Zf ?_)
 intro h1 k1
 refine ⟨fun _=>?_,fun e he=>by simp [findD] at he⟩
 have fin:∀ h2,aA.aJ (fun _=>False) h1 h2->∀ K:V->aA->Prop,(∀ h',aA.aJ (fun _=>False) h2 h'->K (.bY [.agg KY,.b false]) h')->aC P 53 [.aS] h2 K:=fun h2 _ K hK=>TX hG eN hK
 cases uS:bI node with
 |false=>
  have sW:=fun K hK=>VN (K:=K) hG (h:=h1) node (by omega) uS hK
  have TP:=fun K hK=>find_at (K:=K) hG (h:=h1) hl [] hK
  (refine iG @sW @TP ?_)
  intro h2 k2
  refine ⟨fun _=>?_,fun e he=>by simp [findD] at he⟩
  (refine cD (fin h2 k2) ?_)
  intro h3 k3
  (refine zr ?_)
  exact hK h3 ((k1.trans k2).trans k3)
 |true=>
  obtain ⟨n,Hf⟩:=ad7 uS
  have sW:=fun K hK=>keyn_at (K:=K) hG (h:=h1) node (by omega) uS hK
  have TP:=fun K hK=>find_at (K:=K) hG (h:=h1) hl (dK node) hK
  (refine iG @sW @TP ?_)
  intro h2 k2
  refine ⟨(fun e=>by rw [Hf] at e;cases e),fun e he=>?_⟩
  (refine cD (fin h2 k2) ?_)
  intro h3 k3
  (refine zr ?_)
  exact hK h3 ((k1.trans k2).trans k3)
theorem TY (eN:dQ P 285) {h:aA} {L:List dG} (hl:L.length<=100000) (rev:Int) (pT node:aU) (Jg:bI pT=true) (uS:bI node=true) {e n:dG} (he:findD L (bO pT)=some e) (hn:findD L (dK node)=some n)
 (p:aL) (xY:pE p) (hpd:gY p=true) (hpt:p.term<=9223372036854775807) (uT:e.val=bZ p) (Oc:p.node=[]) (vs:List aU) (term:Int) (ht:term<1) {K:V->aA->Prop}
 (hK:∀ h',aA.aJ (fun _=>False) h h'->K (.bY [.agg [.aS,.aS],.b false]) h'):aC P 14 [.sl none 3 (L.map lG),.i .i64 rev,.agg [.s pT,.s node,.sl none 1 (vs.map bE)],.i .i64 term] h K:=by
 have BP:=fun K hK=>keyp_at (K:=K) hG (h:=h) pT (by have:=(nameB_ok Jg).1;omega) Jg hK
 have Zf:=fun K hK=>find_at (K:=K) hG (h:=h) hl (bO pT) hK
 refine dU (hG _ AF.f14 rfl) rfl ?_
 (refine iG @BP @Zf ?_)
 intro h1 k1
 refine ⟨(fun e=>by rw [he] at e;cases e),fun e' D3=>?_⟩
 obtain rfl:e'=e:=by rw [he] at D3;cases D3;rfl
 have sW:=fun K hK=>keyn_at (K:=K) hG (h:=h1) node (by have:=(nameB_ok uS).1;omega) uS hK
 have TP:=fun K hK=>find_at (K:=K) hG (h:=h1) hl (dK node) hK
 (refine iG @sW @TP ?_)
 intro h2 k2
 refine ⟨(fun e=>by rw [hn] at e;cases e),fun n' LD=>?_⟩
 obtain rfl:n'=n:=by rw [hn] at LD;cases LD;rfl
 have Xd:=fun K hK=>Jb (K:=K) hG eN p xY hpd hpt (h:=h2) hK
 rw [<-uT] at Xd
 (refine cD @Xd ?_)
 intro h3 k3
 have QD:(!(p.node==([]:aU)))=false:=by rw [Oc];rfl
 (refine iG @ht @QD ?_)
 exact hK h3 ((k1.trans k2).trans k3)
theorem ptxn0_at (eN:dQ P 285) {h:aA} {L:List dG} (hl:L.length<=100000) (rev:Int) (pT node:aU) (Jg:bI pT=true) (uS:bI node=true) {e n:dG} (he:findD L (bO pT)=some e) (hn:findD L (dK node)=some n)
 (p:aL) (xY:pE p) (hpd:gY p=true) (hpt:p.term<=9223372036854775807) (uT:e.val=bZ p) (Oc:p.node=[]) (vs:List aU) (term:Int) (ht:1<=term/\term<=9223372036854775807) (Ly:node≠[]) (q:aL) (hq:q={ p with node:=node,term:=term }) (hqb:gY q=true) (hql:pE q)
 (X:List dG) (hX:X.length=vs.length) (Jv:vs.length<=1000) (hv:∀ (i:Nat) (v:aU) (x:dG),vs[i]? =some v->X[i]? =some x->bI v=true/\findD L (bO v)=some x) {K:V->aA->Prop}
 (hK:∀ h',aA.aJ (fun _=>False) h h'->K (.bY [.agg [.sl none 3 ((rE rev term e n).map y7),.sl none 3 (mR (sO e q)::X.map xJ)],.b true]) h'):aC P 14 [.sl none 3 (L.map lG),.i .i64 rev,.agg [.s pT,.s node,.sl none 1 (vs.map bE)],.i .i64 term] h K:=by
 have BP:=fun K hK=>keyp_at (K:=K) hG (h:=h) pT (by have:=(nameB_ok Jg).1;omega) Jg hK
 have Zf:=fun K hK=>find_at (K:=K) hG (h:=h) hl (bO pT) hK
 have hvm:(vs.map bE).length=vs.length:=List.length_map _
 have QD:(!(p.node==([]:aU)))=false:=by rw [Oc];rfl
 have ajZ:(node==([]:aU))=false:=by simpa using Ly
 refine dU (hG _ AF.f14 rfl) rfl ?_
 (refine iG @BP @Zf ?_)
 intro h1 k1
 refine ⟨(fun e=>by rw [he] at e;cases e),fun e' D3=>?_⟩
 obtain rfl:e'=e:=by rw [he] at D3;cases D3;rfl
 have sW:=fun K hK=>keyn_at (K:=K) hG (h:=h1) node (by have:=(nameB_ok uS).1;omega) uS hK
 have TP:=fun K hK=>find_at (K:=K) hG (h:=h1) hl (dK node) hK
 (refine iG @sW @TP ?_)
 intro h2 k2
 refine ⟨(fun e=>by rw [hn] at e;cases e),fun n' LD=>?_⟩
 obtain rfl:n'=n:=by rw [hn] at LD;cases LD;rfl
 have Xd:=fun K hK=>Jb (K:=K) hG eN p xY hpd hpt (h:=h2) hK
 rw [<-uT] at Xd
 (refine cD @Xd ?_)
 intro h3 k3
 have XN:=fun K hK=>VL (K:=K) hG eN q hql hqb (by rw [hq];exact ht.2) (h:=h3) hK
 rw [hq] at XN
 (refine N9 (show ¬term<1 by omega) @QD @ajZ @XN ?_)
 intro h4 k4
 rw [<-hq]
 have W3:=fun K hK=>keyl_at (K:=K) hG (h:=h4) hK
 (refine cD @W3 ?_)
 obtain ⟨W0,hW0⟩:∃ W0,W0=mR (sO e' q):=⟨_,rfl⟩
 obtain ⟨G0,hG0⟩:∃ G0,G0=(rE rev term e' n').map y7:=⟨_,rfl⟩
 refine cS.by (fun w fr st=>∃ (i:Nat) (hh lo:aA) (t:Nat),i<=vs.length/\w=vs.length - i/\aA.aJ (fun _=>False) h hh/\6<lo.next/\t<lo.next/\t≠6/\t≠1/\lo.get 1=some (.cs [.aS,.aS])/\
  lo.get 6=some (.cs [.sl (some (.l 7)) 3 G0,.sl (some (.l t)) 3 (W0::(X.take i).map xJ)])/\lo.get t=some .spare/\
  Fr.le [(102,.i .i64 i),(101,.i .i64 (vs.map bE).length),(100,.sl none 1 (vs.map bE)),(16,.p (.l 6) 0),(8,.p (.l 1) 0),(0,.sl none 3 (L.map lG))] fr/\st=⟨hh,lo⟩)
  vs.length ⟨0,h4,_,5,Nat.zero_le _,rfl,((k1.trans k2).trans k3).trans k4,(by show 6<8;decide),(by show 5<8;decide),by decide,by decide,rfl,(by rw [hW0,hG0];rfl),rfl,cT,rfl⟩ ?_
 rintro w fr st ⟨i,hh,lo,t,hi,rfl,hk,l6,lt,t6,t1,g1,g6,gt,dE,rfl⟩
 refine ⟨_,dE,fun R hR=>?_⟩
 by_cases cY:i<vs.length
 · have hvi:=List.getElem?_eq_getElem cY
   have hxi:=List.getElem?_eq_getElem (show i<X.length by omega)
   obtain ⟨ZS,hvf⟩:=hv i _ _ hvi hxi
   generalize vs[i]=v at hvi ZS hvf
   generalize X[i]'(by omega)=x at hxi hvf
   have XE:=fun K hK=>keyp_at (K:=K) hG (h:=hh) v (by have:=(nameB_ok ZS).1;omega) ZS hK
   have hfv:=fun K hK=>find_at (K:=K) hG (h:=hh) hl (bO v) hK
   have GN:(X.take (i+1)).map xJ=(X.take i).map xJ++[xJ x]:=by rw [List.take_add_one,hxi,List.map_append];rfl
   have hXl:((X.take i).map xJ).length<=1000:=by rw [List.length_map,List.length_take];omega
   generalize (X.take i).map xJ=Y at g6 GN hXl
   (refine N9 (show (i:Int)<(vs.map bE).length by omega) @XE @hfv @hvi ?_)
   intro h5 k5
   refine ⟨(fun e=>by rw [hvf] at e;cases e),fun x' Uq=>?_⟩
   obtain rfl:x'=x:=by rw [hvf] at Uq;cases Uq;rfl
   have a6:∀ o o',((lo.push o).set lo.next o').get 6=some (.cs [.sl (some (.l 7)) 3 G0,.sl (some (.l t)) 3 (W0::Y)]):=fun o o'=>aA.gs (by omega) (aA.gp (by omega) g6)
   have a1:∀ o o',((lo.push o).set lo.next o').get 1=some (.cs [.aS,.aS]):=fun o o'=>aA.gs (by omega) (aA.gp (by omega) g1)
   have a6':∀ o o',(((lo.push o).set lo.next o').push .spare).get 6=some (.cs [.sl (some (.l 7)) 3 G0,.sl (some (.l t)) 3 (W0::Y)]):=fun o o'=>aA.gp (by show 6≠lo.next+1;omega) (a6 o o')
   have at_:∀ o o',(((lo.push o).set lo.next o').push .spare).get t=some .spare:=fun o o'=>aA.gp (by show t≠lo.next+1;omega) (aA.gs (by omega) (aA.gp (by omega) gt))
   have aeA:∀ o o',(((((lo.push o).set lo.next o').push .spare).remove t).push .spare).get 6=some (.cs [.sl (some (.l 7)) 3 G0,.sl (some (.l t)) 3 (W0::Y)]):=fun o o'=>aA.gp (by show 6≠lo.next+1+1;omega) (aA.gr (by omega) (a6' o o'))
   (refine zx5 @a6 @a6' @aeA @at_ @aA.aB ?_)
   refine hR (vs.length - (i+1)) _ _ (by omega) ⟨i+1,h5,_,lo.next+2,by omega,rfl,hk.trans k5,(by show 6<lo.next+3;omega),(by show lo.next+2<lo.next+3;omega),by omega,by omega,?_,?_,aA.gs (by omega) (aA.aB _ _),cT,rfl⟩
   · exact aA.gs (by omega) (aA.gp (by show 1≠lo.next+1+1;omega) (aA.gr (by omega) (aA.gp (by show 1≠lo.next+1;omega) (a1 _ _))))
   · refine (aA.aD (aeA _ _)).trans ?_
     rw [GN];rfl
 · obtain rfl:i=vs.length:=by omega
   rw [show X.take vs.length=X by rw [<-hX,List.take_length]] at g6
   clear hR
   (refine qR (show ¬((vs.length:Nat):Int)<(vs.map bE).length by omega) @g6 @g1 ?_)
   rw [hW0,hG0] at*
   refine uN (rs:=AF.f14.results) (v:=.bY [.agg [.sl none 3 ((rE rev term e' n').map y7),.sl none 3 (mR (sO e' q)::X.map xJ)],.b true]) ?_ (hK _ hk)
   exact oU rfl (aA.aD g1) rfl rfl rfl
theorem ptxn_at (eN:dQ P 285) {h:aA} {L:List dG} (hl:L.length<=100000) (rev:Int) (pT node:aU) (Jg:bI pT=true) (uS:bI node=true) {e n:dG} (he:findD L (bO pT)=some e) (hn:findD L (dK node)=some n)
 (p:aL) (xY:pE p) (hpd:gY p=true) (hpt:p.term<=9223372036854775807) (uT:e.val=bZ p) (Oc:p.node=[]) (vs:List aU) (term:Int) (ht:1<=term/\term<=9223372036854775807) (Ly:node≠[]) (q:aL) (hq:q={ p with node:=node,term:=term }) (hqb:gY q=true) (hql:pE q)
 (X:List dG) (hX:X.length=vs.length) (Jv:vs.length<=1000) (hv:∀ (i:Nat) (v:aU) (x:dG),vs[i]? =some v->X[i]? =some x->bI v=true/\findD L (bO v)=some x) {K:V->aA->Prop}
 (hK:∀ h',aA.aJ (fun _=>False) h h'->K (.bY [.agg [.sl none 3 ((rE rev term e n).map y7),.sl none 3 ((sO e q::X.map kO).map mR)],.b true]) h'):aC P 14 [.sl none 3 (L.map lG),.i .i64 rev,.agg [.s pT,.s node,.sl none 1 (vs.map bE)],.i .i64 term] h K:=by
 refine aC.tell (ptxn0_at hG eN hl rev pT node Jg uS he hn p xY hpd hpt uT Oc vs term ht Ly q hq hqb hql X hX Jv hv (K:=fun v h'=>v=.bY [.agg [.sl none 3 ((rE rev term e n).map y7),.sl none 3 (mR (sO e q)::X.map xJ)],.b true]/\aA.aJ (fun _=>False) h h') fun h' hk=>⟨rfl,hk⟩) ?_
 rintro v h' ⟨rfl,hk⟩
 have hc:Ah gV ⟨0,0⟩ gG [.sl none 3 ((rE rev term e n).map y7),.sl none 3 (mR (sO e q)::X.map xJ)] [.sl none 3 ((rE rev term e n).map y7),.sl none 3 ((sO e q::X.map kO).map mR)]:=⟨Bw _ _,.rows (.cons (Lh _) (OG X)),trivial⟩
 exact ⟨_,fun E x hx=>FE hc E x hx,hK h' hk⟩
end
open Go
section
variable {P:Program} (hG:bP P AF.fns.get)
include hG
theorem scp_at (eK:gZ P) (a b:aL) {h:aA} {K:V->aA->Prop} (hK:K (.i .i64 (jV a.name b.name)) h):aC P 60 [.agg (aI a),.agg (aI b)] h K:=by
 have h1:=fun K hK=>eK a.name b.name h K hK
 have h2:∀ K:V->aA->Prop,K (.i .i64 (jV a.name b.name)) h->aC P 61 [.s a.name,.s b.name] h K:=fun K hK=>by
  refine dU (hG _ AF.f61 rfl) rfl ?_
  (refine cD @h1 ?_)
  exact hK
 refine dU (hG _ AF.f60 rfl) rfl ?_
 (refine cD @h2 ?_)
 exact hK
theorem sisp_at (eK:gZ P) (es:List aL) (hl:es.length<=1000) (hs:es.Pairwise fun a b=>bR a.name b.name) {h:aA} {K:V->aA->Prop} (hK:K (.bY []) h):
 aC P 223 [.sl none 16 (es.map aI),.i .i64 0,.i .i64 (es.map aI).length,.fn 60 [] []] h K:=by
 have gK:(es.map aI).length=es.length:=List.length_map _
 refine dU (hG _ AF.f223 rfl) rfl ?_
 (refine zr ?_)
 refine cS.by (fun q fr st=>∃ (i:Nat) (lo:aA),1<=i/\i<=es.length+1/\q=es.length+1 - i/\
  Fr.le [(8,.i .i64 i),(3,.fn 60 [] []),(2,.i .i64 (es.map aI).length),(1,.i .i64 0),(0,.sl none 16 (es.map aI))] fr/\st=⟨h,lo⟩)
  es.length ⟨1,_,by omega,by omega,by omega,cT,rfl⟩ ?_
 rintro q fr st ⟨i,lo,Uv,hi,rfl,dE,rfl⟩
 refine ⟨_,dE,fun R' hR=>?_⟩
 by_cases cY:i<es.length
 · have he:=List.getElem?_eq_getElem cY
   have hf:=List.getElem?_eq_getElem (show i - 1<es.length by omega)
   generalize es[i]=e at he
   generalize es[i - 1]=f at hf
   have jE:=fW (lF hs (by omega:i - 1<i) hf he)
   have hc:=fun K hK=>scp_at (K:=K) hG eK e f (h:=h) hK
   generalize jV e.name f.name=c at jE hc
   ((conv=>whnf);repeat ((first|refine aH.dt (show (i:Int)<(es.map aI).length by omega) ?_|refine aH.dt (show (i:Int)>0 by omega) ?_|refine aH.df (show ¬c<0 by omega) ?_|refine cS.un rfl ?_|refine cA (hc _) ?_|refine aM.ix (by omega) (by omega) ?_|refine aR.gA (by omega) (by omega) ?_|refine ye (aF (f:=aI) (by omega) he) ?_|refine ye (aF (f:=aI) (by omega) hf) ?_|refine zz ?_)<;>(conv=>whnf)))
   exact hR (es.length+1 - (i+1)) _ _ (by omega) ⟨i+1,_,by omega,by omega,rfl,cT,rfl⟩
 · (refine cD (show ¬(i:Int)<(es.map aI).length by omega) ?_)
   exact hK
theorem scn_at (eK:gZ P) (a b:bK) {h:aA} {K:V->aA->Prop} (hK:K (.i .i64 (jV a.name b.name)) h):aC P 63 [.agg (aK a),.agg (aK b)] h K:=by
 have h1:=fun K hK=>eK a.name b.name h K hK
 have h2:∀ K:V->aA->Prop,K (.i .i64 (jV a.name b.name)) h->aC P 61 [.s a.name,.s b.name] h K:=fun K hK=>by
  refine dU (hG _ AF.f61 rfl) rfl ?_
  (refine cD @h1 ?_)
  exact hK
 refine dU (hG _ AF.f63 rfl) rfl ?_
 (refine cD @h2 ?_)
 exact hK
theorem sisn_at (eK:gZ P) (es:List bK) (hl:es.length<=1000) (hs:es.Pairwise fun a b=>bR a.name b.name) {h:aA} {K:V->aA->Prop} (hK:K (.bY []) h):
 aC P 234 [.sl none 6 (es.map aK),.i .i64 0,.i .i64 (es.map aK).length,.fn 63 [] []] h K:=by
 have gK:(es.map aK).length=es.length:=List.length_map _
 refine dU (hG _ AF.f234 rfl) rfl ?_
 (refine zr ?_)
 refine cS.by (fun q fr st=>∃ (i:Nat) (lo:aA),1<=i/\i<=es.length+1/\q=es.length+1 - i/\
  Fr.le [(8,.i .i64 i),(3,.fn 63 [] []),(2,.i .i64 (es.map aK).length),(1,.i .i64 0),(0,.sl none 6 (es.map aK))] fr/\st=⟨h,lo⟩)
  es.length ⟨1,_,by omega,by omega,by omega,cT,rfl⟩ ?_
 rintro q fr st ⟨i,lo,Uv,hi,rfl,dE,rfl⟩
 refine ⟨_,dE,fun R' hR=>?_⟩
 by_cases cY:i<es.length
 · have he:=List.getElem?_eq_getElem cY
   have hf:=List.getElem?_eq_getElem (show i - 1<es.length by omega)
   generalize es[i]=e at he
   generalize es[i - 1]=f at hf
   have jE:=fW (lF hs (by omega:i - 1<i) hf he)
   have hc:=fun K hK=>scn_at (K:=K) hG eK e f (h:=h) hK
   generalize jV e.name f.name=c at jE hc
   ((conv=>whnf);repeat ((first|refine aH.dt (show (i:Int)<(es.map aK).length by omega) ?_|refine aH.dt (show (i:Int)>0 by omega) ?_|refine aH.df (show ¬c<0 by omega) ?_|refine cS.un rfl ?_|refine cA (hc _) ?_|refine aM.ix (by omega) (by omega) ?_|refine aR.gA (by omega) (by omega) ?_|refine ye (aF (f:=aK) (by omega) he) ?_|refine ye (aF (f:=aK) (by omega) hf) ?_|refine zz ?_)<;>(conv=>whnf)))
   exact hR (es.length+1 - (i+1)) _ _ (by omega) ⟨i+1,_,by omega,by omega,rfl,cT,rfl⟩
 · (refine cD (show ¬(i:Int)<(es.map aK).length by omega) ?_)
   exact hK
end
open Go
theorem GB {n m:Int} {k:Int->Prop} (e:n=m) (h1:-9223372036854775808<=m) (h2:m<=9223372036854775807) (hk:k m):aR .i64 n k:=by
 subst e;exact .gA h1 h2 hk
end Go.Eng
