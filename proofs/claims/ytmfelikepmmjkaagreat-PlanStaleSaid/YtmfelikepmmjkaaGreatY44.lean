/-
The store of many keys: whether a txn can be done.
-/
import Derived.Test.YtmfelikepmmjkaaGreatY29
import Derived.Test.YtmfelikepmmjkaaGreatY13
import Derived.Test.YtmfelikepmmjkaaGreatY10
import Derived.Test.YtmfelikepmmjkaaGreatY22
set_option linter.unusedVariables false
set_option linter.unusedSimpArgs false
set_option maxHeartbeats 16000000
namespace Go.Eng
open Go
def O3 (t:aU×Int):V×V:=(.s t.1,.i .i64 t.2)
def wW:List (aU×Int)->aU->Int->List (aU×Int)
 |[],k,r=>[(k,r)]
 |x::q,k,r=>if k=x.1 then (k,r)::q else x::wW q k r
theorem M1 (k:aU) (r:Int):∀ T:List (aU×Int),y9 (T.map O3) (.s k) (.i .i64 r)=(wW T k r).map O3
 |[]=>rfl
 |x::q=>by
  simp only [List.map_cons,O3,y9,wW,CP]
  by_cases c:k=x.1
  · rw [if_pos c,if_pos (by simp [c])];simp [O3,c]
  · rw [if_neg c,if_neg (by simpa using c)]
    exact congrArg _ (M1 k r q)
structure JT (h:aA) (a m0 m1 lg:Nat) (rl:Option Nat) (R:Int) (D:List dJ) (T:List (aU×Int)) (L:List j1) (base:Int):Prop where
 lt:a<h.next/\m0<h.next/\m1<h.next
 ne:a≠m0/\a≠m1/\m0≠m1/\a≠lg/\m0≠lg/\m1≠lg
 nr:∀ k,rl=some k->k≠a/\k≠m0/\k≠m1
 ga:∃ rd wr,h.get a=some (.cs [.i .i64 R,.m (.g m0),.m (.g m1),.p (.g lg) 0,.i .i64 rd,.i .i64 wr])
 g0:h.get m0=some (.mp none (D.map JN))
 g1:h.get m1=some (.mp none (T.map O3))
 log:Cn h lg rl L base R
def Gm (a m0 m1 lg:Nat) (rl:Option Nat) (n:Nat):Prop:=n=a\/n=m0\/n=m1\/n=lg\/rl=some n
theorem JT.other {h h':aA} {a m0 m1 lg:Nat} {rl:Option Nat} {R:Int} {D:List dJ} {T:List (aU×Int)} {L:List j1} {base:Int} (hs:JT h a m0 m1 lg rl R D T L base) {but:Nat->Prop} (hk:aA.aI but h h') (hb:∀ n,Gm a m0 m1 lg rl n->¬but n):JT h' a m0 m1 lg rl R D T L base:=by
 obtain ⟨l1,l2,l3⟩:=hs.lt
 obtain ⟨rd,wr,ga⟩:=hs.ga
 have hn:=hk.next
 exact ⟨⟨by omega,by omega,by omega⟩,hs.ne,hs.nr,⟨rd,wr,(hk.same a l1 (hb a (.inl rfl))).trans ga⟩,(hk.same m0 l2 (hb m0 (.inr (.inl rfl)))).trans hs.g0,(hk.same m1 l3 (hb m1 (.inr (.inr (.inl rfl))))).trans hs.g1,
  hs.log.eK hk (hb lg (.inr (.inr (.inr (.inl rfl))))) (fun k hZ=>hb k (.inr (.inr (.inr (.inr hZ)))))⟩
def JU (D:List dJ):List ED->Bool
 |[]=>true
 |w::r=>!(w.gone&&(eM D w.key).isNone)&&JU D r
open Go
def BT (r:Int) (ws:List ED):List j1:=ws.map fun w=>⟨⟨w.key,r,w.val⟩,w.gone⟩
structure Ve (w:ED):Prop where
 key:1<=w.key.length/\w.key.length<=20
 val:w.val.length<=4000
theorem Bn:∀ {S:List aU} {ws:List ED},Fx S ws=true->∀ w∈ws,Ve w
 |S,x::r,h,w,hw=>by
  unfold Fx T4 yU at h
  simp only [Bool.and_eq_true,decide_eq_true_eq] at h
  cases hw with
  |head=>exact ⟨h.1.1,h.1.2.2.2⟩
  |tail _ hw=>exact Bn h.2 w hw
abbrev EE (P:Program):Prop:=∀ (args:List V) (h:aA) (r:V) (h':aA),sI args h=some (r,h')->∀ K:V->aA->Prop,K r h'->aB P 42 args h K
def iQ (T:List (aU×Int)) (r:Int) (ws:List ED):List (aU×Int):=ws.foldl (fun T w=>wW T w.key r) T
section
variable {P:Program} (hG:bN P AF.fns.get)
include hG
theorem scop_ok (e:dJ) (h:RD e):Pure P 44 [.agg (lN e)] (·=.agg (lN e)):=by
 have hc:=sQ hG e.val h.val
 refine aM (hG _ AF.f44 rfl) rfl ?_
 (refine cJ @hc ?_)
 exact aE rfl rfl
end
open Go
theorem JT.reads {h:aA} {a m0 m1 lg:Nat} {rl:Option Nat} {R:Int} {D:List dJ} {T:List (aU×Int)} {L:List j1} {base:Int} (hs:JT h a m0 m1 lg rl R D T L base):
 ∃ (v:Int) (h1:aA) (rd wr:Int),sI [.p (.g a) 4,.i .i64 1] h=some (.i .i64 v,h1)/\JT h1 a m0 m1 lg rl R D T L base/\aA.aI (fun n=>n=a) h h1/\h1.get a=some (.cs [.i .i64 R,.m (.g m0),.m (.g m1),.p (.g lg) 0,.i .i64 rd,.i .i64 wr]):=by
 obtain ⟨rd,wr,ha⟩:=hs.ga
 obtain ⟨l1,l2,l3⟩:=hs.lt
 obtain ⟨n1,n2,n3,n4,n5,n6⟩:=hs.ne
 have uH:sI [.p (.g a) 4,.i .i64 1] h=some (.i .i64 (IntKind.i64.wrap (rd+1)),h.set a (.cs [.i .i64 R,.m (.g m0),.m (.g m1),.p (.g lg) 0,.i .i64 (IntKind.i64.wrap (rd+1)),.i .i64 wr])):=by simp only [sI,ha];rfl
 have k1:aA.aI (fun n=>n=a) h (h.set a (.cs [.i .i64 R,.m (.g m0),.m (.g m1),.p (.g lg) 0,.i .i64 (IntKind.i64.wrap (rd+1)),.i .i64 wr])):=aA.aI.set (b:=fun n=>n=a) (.refl _ _) (.inl rfl) _
 exact ⟨_,_,_,wr,uH,⟨⟨l1,l2,l3⟩,hs.ne,hs.nr,⟨_,wr,aA.aD ha⟩,(k1.same m0 l2 n1.symm).trans hs.g0,(k1.same m1 l3 n2.symm).trans hs.g1,hs.log.eK k1 n4.symm (fun k hk=>(hs.nr k hk).1)⟩,k1,aA.aD ha⟩
section
variable {P:Program} (hG:bN P AF.fns.get)
include hG
theorem snew_at {h:aA} {K:V->aA->Prop} (hK:∀ h',JT h' (h.next+3) h.next (h.next+1) (h.next+2) none 0 [] [] [] 0->aA.aI (fun _=>False) h h'->h'.next=h.next+4->K (.p (.g (h.next+3)) 0) h'):aB P 9 [] h K:=by
 refine aN (hG _ AF.f9 rfl) rfl ?_
 (refine cJ (aN (hG _ AF.f41 rfl) rfl) ?_)
 refine hK _ ⟨⟨?_,?_,?_⟩,⟨by omega,by omega,by omega,by omega,by omega,by omega⟩,(fun k hk=>by cases hk),⟨0,0,aA.aC _ _⟩,?_,?_,⟨?_,.inl ⟨rfl,rfl,?_⟩⟩⟩ (.push (.push (.push (.push (.refl _ _) _) _) _) _) rfl
 · show h.next+3<h.next+1+1+1+1;omega
 · show h.next<h.next+1+1+1+1;omega
 · show h.next+1<h.next+1+1+1+1;omega
 · exact aA.gp (by show h.next≠h.next+1+1+1;omega) (aA.gp (by show h.next≠h.next+1+1;omega) (aA.gp (by show h.next≠h.next+1;omega) (aA.aC _ _)))
 · exact aA.gp (by show h.next+1≠h.next+1+1+1;omega) (aA.gp (by show h.next+1≠h.next+1+1;omega) (aA.aC _ _))
 · show h.next+2<h.next+1+1+1+1;omega
 · exact aA.gp (by show h.next+2≠h.next+1+1+1;omega) (aA.aC _ _)
theorem srev_at {h:aA} {a m0 m1 lg:Nat} {rl:Option Nat} {R:Int} {D:List dJ} {T:List (aU×Int)} {L:List j1} {base:Int} (hs:JT h a m0 m1 lg rl R D T L base) {K:V->aA->Prop} (hK:K (.i .i64 R) h):aB P 16 [.p (.g a) 0] h K:=by
 obtain ⟨rd,wr,ha⟩:=hs.ga
 refine jG (hG _ AF.f16 rfl) rfl ?_
 (refine cJ @ha ?_)
 exact hK
theorem slist_at (hA:EE P) (hS:Ax P) {h:aA} {a m0 m1 lg:Nat} {rl:Option Nat} {R:Int} {D Ls:List dJ} {T:List (aU×Int)} {L:List j1} {base:Int} (OX:JT h a m0 m1 lg rl R D T L base) (hD:∀ e∈D,RD e) (hn:D.length<=100000) (hr:jW D Ls) {K:V->aA->Prop}
 (hK:∀ lv h',RE lv Ls->JT h' a m0 m1 lg rl R D T L base->aA.aI (Gm a m0 m1 lg rl) h h'->K lv h'):aB P 15 [.p (.g a) 0] h K:=by
 obtain ⟨rd0,wr0,ha0⟩:=OX.ga
 obtain ⟨v,h1,rd,wr,uH,xJ,k1,ha⟩:=OX.reads
 have Cf:aA.aI (Gm a m0 m1 lg rl) h h1:=k1.mono fun _ _ e=>.inl e
 obtain ⟨l1,l2,l3⟩:=xJ.lt
 have h5:=xJ.g0
 have hsk:=fun K=>hS.keys (h1.push (.cs [.m (.g m0)])) h1.next m0 _ (D.map JN) (D.map (·.key)) (aA.aC _ _) rfl (aA.gp (by omega) h5) (by simp [JN,Function.comp_def]) hr.nd (fun x hx=>by
  obtain ⟨e,he,rfl⟩:=List.mem_map.1 hx
  exact (hD e he).key) (by simp;omega) (K:=K)
 rw [hr.keys] at hsk
 have iO:((Ls.map (·.key)).map bG).length=Ls.length:=by simp
 have hLn:Ls.length<=100000:=by have:=hr.len;omega
 have qO:aA.aI (fun _=>False) h1 (h1.push (.cs [.m (.g m0)])):=.push (.refl _ _) _
 have Sy:=xJ.other qO (fun _ _ x=>x)
 have g4:(h1.push (.cs [.m (.g m0)])).get a=some (.cs [.i .i64 R,.m (.g m0),.m (.g m1),.p (.g lg) 0,.i .i64 rd,.i .i64 wr]):=aA.gp (by omega) ha
 have g5:(h1.push (.cs [.m (.g m0)])).get m0=some (.mp none (D.map JN)):=aA.gp (by omega) h5
 have yY:aA.aI (Gm a m0 m1 lg rl) h (h1.push (.cs [.m (.g m0)])):=Cf.trans (qO.mono fun _ _ e=>e.elim)
 refine jG (hG _ AF.f15 rfl) rfl ?_
 (refine Jk (hA _ _ _ _ uH) (jG (hG _ AF.f55 rfl) rfl) @hsk @ha0 @ha ?_)
 generalize h1.push (.cs [.m (.g m0)])=hh at*
 refine fQ.by (fun q fr st=>∃ (i:Nat) (lo:aA) (lv:V),i<=Ls.length/\q=Ls.length - i/\((i=0/\lv=.aV)\/(0<i/\∃ t,lv=.sl (some (.l t)) 3 ((Ls.take i).map lN)/\t<lo.next/\lo.get t=some .spare))/\
  Fr.le [(19,.i .i64 i),(18,.i .i64 ((Ls.map (·.key)).map bG).length),(17,.sl none 1 ((Ls.map (·.key)).map bG)),(3,lv),(0,.p (.g a) 0)] fr/\st=⟨hh,lo⟩)
  Ls.length ⟨0,_,.aV,Nat.zero_le _,rfl,.inl ⟨rfl,rfl⟩,dK,rfl⟩ ?_
 rintro q fr st ⟨i,lo,lv,hi,rfl,Ss,dO,rfl⟩
 refine ⟨_,dO,fun R hR=>?_⟩
 by_cases eB:i<Ls.length
 · have he:=List.getElem?_eq_getElem eB
   have BA:=List.getElem_mem eB
   generalize Ls[i]=e at he BA
   have fC:=hr.get BA
   have CR:=Av e.key D
   rw [fC] at CR
   have hcp:=scop_ok hG e (hD e (JP fC))
   have hkx:((Ls.map (·.key)).map bG)[((i:Nat):Int).toNat]? =some (bG e.key):=by rw [Int.toNat_natCast,List.getElem?_map,List.getElem?_map,he];rfl
   have kQ:Ls.take (i+1)=Ls.take i++[e]:=by rw [List.take_add_one,he];rfl
   have B0:((Ls.take i).map lN).length=i:=by simp;omega
   rcases Ss with ⟨rfl,rfl⟩|⟨Cs,t,rfl,MT,AM⟩
   · ((conv=>whnf);repeat ((first|refine aH.dt (by omega) ?_|refine aK.ix (by omega) (by omega) ?_|refine aZ.of CR ?_|refine cA (Pure.go hcp rfl) ?_|refine ye (x:=[lN e]) rfl ?_|refine aQ.gS (by omega) (by omega) ?_|refine ye (hkx) ?_|refine ye (g4) ?_|refine ye (g5) ?_|refine zz ?_)<;>(conv=>whnf)))
     exact hR (Ls.length - (0+1)) _ _ (by omega) ⟨0+1,_,_,by omega,rfl,.inr ⟨by omega,lo.next+1,by first|(rw [kQ];done)|(rw [kQ];rfl),Nat.lt_succ_self _,aA.aC _ _⟩,dK,rfl⟩
   · have p1:(lo.push .spare).get t=some .spare:=aA.gp (by omega) AM
     ((conv=>whnf);repeat ((first|refine aH.dt (by omega) ?_|refine aK.ix (by omega) (by omega) ?_|refine aZ.of CR ?_|refine cA (Pure.go hcp rfl) ?_|refine aK.mk (by simp [bR];omega) ?_|refine ye (x:=[lN e]) rfl ?_|refine aQ.gS (by omega) (by omega) ?_|refine ye (hkx) ?_|refine ye (g4) ?_|refine ye (g5) ?_|refine ye (p1) ?_|refine zz ?_)<;>(conv=>whnf)))
     exact hR (Ls.length - (i+1)) _ _ (by omega) ⟨i+1,_,_,by omega,rfl,.inr ⟨by omega,lo.next+1,by first|(rw [kQ,List.map_append];done)|(rw [kQ,List.map_append];rfl),Nat.lt_succ_self _,aA.aC _ _⟩,dK,rfl⟩
 · obtain rfl:i=Ls.length:=by omega
   rcases Ss with ⟨h6,rfl⟩|⟨Cs,t,rfl,MT,AM⟩
   · (refine zx0 ?_)
     exact hK _ _ (.inl ⟨rfl,List.length_eq_zero_iff.1 h6⟩) Sy yY
   · rw [List.take_length] at*
     (refine zx0 ?_)
     exact hK _ _ (.inr rfl) Sy yY
end
open Go
structure O4 where
 key:aU
 rev:Int
 under:Bool
def wX (g:O4):List V:=[.s g.key,.i .i64 g.rev,.b g.under]
def Oz (g:O4):Bool:=yU g.key&&decide (0<=g.rev)
def Bq (gs:List O4) (ws:List ED):Bool:=decide (gs.length<=20)&&(decide (1<=ws.length)&&(decide (ws.length<=64)&&(gs.all Oz&&Fx [] ws)))
section
variable {P:Program} (hG:bN P AF.fns.get)
include hG
theorem umay_at {h:aA} (gs:List O4) (OA:∀ g∈gs,g.key.length<=9223372036854775807) (HZ:gs.length<=9223372036854775807) (ws:List ED) (hw:∀ w∈ws,RJ w) (hl:ws.length<=9223372036854775807) {K:V->aA->Prop} (hK:∀ h',aA.aI (fun _=>False) h h'->K (.b (Bq gs ws)) h'):
 aB P 103 [.agg [.sl none 3 (gs.map wX),.sl none 3 (ws.map lP)]] h K:=by
 have Bf:(ws.map lP).length=ws.length:=List.length_map _
 have hgm:(gs.map wX).length=gs.length:=List.length_map _
 unfold Bq at hK
 obtain ⟨B,hB⟩:∃ B,B=Fx [] ws:=⟨_,rfl⟩
 rw [<-hB] at hK
 refine jG (hG _ AF.f103 rfl) rfl ?_
 by_cases c0:gs.length>20
 · rw [decide_eq_false (by omega)] at hK
   (refine cJ (show ((gs.map wX).length:Int)>20 by omega) ?_)
   exact hK h (.refl _ _)
 rw [decide_eq_true (by omega),Bool.true_and] at hK
 by_cases c1:ws.length<1
 · rw [decide_eq_false (by omega)] at hK
   (refine iU (show ¬((gs.map wX).length:Int)>20 by omega) (show ((ws.map lP).length:Int)<1 by omega) ?_)
   exact hK h (.refl _ _)
 rw [decide_eq_true (by omega),Bool.true_and] at hK
 by_cases c2:ws.length>64
 · rw [decide_eq_false (by omega)] at hK
   (refine pU (show ¬((gs.map wX).length:Int)>20 by omega) (show ¬((ws.map lP).length:Int)<1 by omega) (show ((ws.map lP).length:Int)>64 by omega) ?_)
   exact hK h (.refl _ _)
 rw [decide_eq_true (by omega),Bool.true_and] at hK
 (refine pU (show ¬((gs.map wX).length:Int)>20 by omega) (show ¬((ws.map lP).length:Int)<1 by omega) (show ¬((ws.map lP).length:Int)>64 by omega) ?_)
 refine fQ.by (fun q fr st=>∃ (j:Nat) (lo:aA),j<=gs.length/\q=gs.length - j/\gs.all Oz=(gs.drop j).all Oz/\0<lo.next/\lo.get 0=some (.cs [.sl none 3 (gs.map wX),.sl none 3 (ws.map lP)])/\
  Fr.le [(27,.i .i64 j),(26,.i .i64 (gs.map wX).length),(25,.sl none 3 (gs.map wX)),(1,.p (.l 0) 0)] fr/\st=⟨h,lo⟩)
  gs.length ⟨0,_,Nat.zero_le _,rfl,rfl,Nat.zero_lt_one,rfl,dK,rfl⟩ ?_
 rintro q fr st ⟨j,lo,hj,rfl,Gf,zJ,g0,dO,rfl⟩
 refine ⟨_,dO,fun R0 Oo=>?_⟩
 by_cases Fv:j<gs.length
 · have he:=List.getElem?_eq_getElem Fv
   have rC:=OA _ (List.getElem_mem Fv)
   have y6:=List.drop_eq_getElem_cons Fv
   generalize gs[j]=g at he rC y6
   rw [y6,List.all_cons] at Gf
   have kV:=fun (K:V->aA->Prop) hK=>gkey_ok (K:=K) hG (h:=h) g.key rC hK
   have a1:∀ o,(lo.push o).get lo.next=some o:=fun o=>aA.aC _ _
   have a2:∀ o o2,((lo.push o).set lo.next o2).get lo.next=some o2:=fun o o2=>aA.aD (a1 _)
   have a3:∀ o o2,((lo.push o).set lo.next o2).get 0=some (.cs [.sl none 3 (gs.map wX),.sl none 3 (ws.map lP)]):=fun o o2=>aA.gs (by omega) (aA.gp (by omega) g0)
   cases T8:yU g.key
   · have hgf:gs.all Oz=false:=by rw [Gf];unfold Oz;rw [T8];rfl
     rw [hgf,Bool.false_and] at hK
     rw [T8] at kV
     (refine Jk (show (j:Int)<(gs.map wX).length by omega) @kV @he @a2 @a1 ?_)
     exact hK h (.refl _ _)
   rw [T8] at kV
   by_cases wN:g.rev<0
   · have hgf:gs.all Oz=false:=by rw [Gf];unfold Oz;rw [decide_eq_false (show ¬0<=g.rev by omega),Bool.and_false];rfl
     rw [hgf,Bool.false_and] at hK
     (refine Wk (show (j:Int)<(gs.map wX).length by omega) @kV @wN @he @a2 @a1 ?_)
     exact hK h (.refl _ _)
   have Vf:gs.all Oz=(gs.drop (j+1)).all Oz:=by rw [Gf];unfold Oz;rw [T8,decide_eq_true (show 0<=g.rev by omega)];rfl
   (refine Wk (show (j:Int)<(gs.map wX).length by omega) @kV @wN @he @a2 @a1 ?_)
   exact Oo (gs.length - (j+1)) _ _ (by omega) ⟨j+1,_,by omega,rfl,Vf,Nat.lt_succ_of_lt zJ,a3 _ _,dK,rfl⟩
 obtain rfl:j=gs.length:=by omega
 rw [List.drop_length] at Gf
 rw [show gs.all Oz=true from Gf,Bool.true_and] at hK
 clear Oo
 (refine iU (show ¬((gs.length:Nat):Int)<(gs.map wX).length by omega) @g0 ?_)
 refine fQ.by (fun q fr st=>∃ (i:Nat) (hh lo:aA) (S:List aU),i<=ws.length/\q=ws.length - i/\B=Fx S (ws.drop i)/\aA.aI (fun _=>False) h hh/\hh.get h.next=some (.mp none (Az S))/\
  Fr.le [(45,.i .i64 i),(44,.i .i64 (ws.map lP).length),(43,.sl none 3 (ws.map lP)),(5,.m (.g h.next))] fr/\st=⟨hh,lo⟩)
  ws.length ⟨0,_,_,[],Nat.zero_le _,rfl,hB,.push (.refl _ _) _,aA.aC _ _,dK,rfl⟩ ?_
 rintro q fr st ⟨i,hh,lo,S,hi,rfl,hm,hk,hg,Ep,rfl⟩
 refine ⟨_,Ep,fun R hR=>?_⟩
 by_cases eB:i<ws.length
 · have he:=List.getElem?_eq_getElem eB
   have Sz:=hw _ (List.getElem_mem eB)
   have y6:=List.drop_eq_getElem_cons eB
   generalize ws[i]=w at he Sz y6
   rw [y6] at hm
   unfold Fx T4 at hm
   have H3:(w.val.map gH).length=w.val.length:=List.length_map _
   have X0:=Sz.val
   have kV:=fun (K:V->aA->Prop) hK=>gkey_ok (K:=K) hG (h:=hh) w.key Sz.key hK
   have a1:∀ o,(lo.push o).get lo.next=some o:=fun o=>aA.aC _ _
   have a2:∀ o o2,((lo.push o).set lo.next o2).get lo.next=some o2:=fun o o2=>aA.aD (a1 _)
   cases T8:yU w.key
   · rw [T8,Bool.false_and,Bool.false_and] at hm
     rw [T8] at kV
     rw [hm] at hK
     (refine Jk (show (i:Int)<(ws.map lP).length by omega) @kV @he @a2 @a1 ?_)
     exact hK hh hk
   rw [T8,Bool.true_and] at hm
   rw [T8] at kV
   by_cases hS:w.key∈S
   · rw [decide_eq_true hS,Bool.not_true,Bool.false_and,Bool.false_and] at hm
     rw [hm] at hK
     have CR:=BR hS
     (refine Zr (show (i:Int)<(ws.map lP).length by omega) @kV @CR @he @a2 @a1 @hg ?_)
     exact hK hh hk
   rw [decide_eq_false hS,Bool.not_false,Bool.true_and] at hm
   have CR:=BS hS
   have MB:=Gl hS
   cases rC:w.gone
   · rw [rC,Bool.false_and,Bool.not_false,Bool.true_and] at hm
     have dH:lP w=[.s w.key,.sl none 1 (w.val.map gH),.b false]:=by rw [<-rC];rfl
     have fC:=(aG (f:=lP) (j:=((i:Nat):Int).toNat) (by omega) he).trans (congrArg some dH)
     by_cases hv:w.val.length<=4000
     · rw [decide_eq_true hv,Bool.true_and] at hm
       (refine QP (show (i:Int)<(ws.map lP).length by omega) @kV @CR (show ¬((w.val.map gH).length:Int)>4000 by omega) @fC @a2 @a1 @hg ?_)
       refine hR (ws.length - (i+1)) _ _ (by omega) ⟨i+1,_,_,S++[w.key],by omega,rfl,hm,aA.aI.set (b:=fun _=>False) hk (.inr (Nat.le_refl _)) _,?_,dK,rfl⟩
       rw [<-MB];exact aA.aD hg
     · rw [decide_eq_false hv,Bool.false_and] at hm
       rw [hm] at hK
       (refine QP (show (i:Int)<(ws.map lP).length by omega) @kV @CR (show ((w.val.map gH).length:Int)>4000 by omega) @fC @a2 @a1 @hg ?_)
       exact hK hh hk
   · have dH:lP w=[.s w.key,.sl none 1 (w.val.map gH),.b true]:=by rw [<-rC];rfl
     have fC:=(aG (f:=lP) (j:=((i:Nat):Int).toNat) (by omega) he).trans (congrArg some dH)
     by_cases Mv:0<w.val.length
     · rw [rC,decide_eq_true Mv] at hm
       rw [show B=false from hm] at hK
       (refine QP (show (i:Int)<(ws.map lP).length by omega) @kV @CR (show ((w.val.map gH).length:Int)>0 by omega) @fC @a2 @a1 @hg ?_)
       exact hK hh hk
     · rw [rC,decide_eq_false Mv,decide_eq_true (show w.val.length<=4000 by omega)] at hm
       have hm':B=Fx (S++[w.key]) (ws.drop (i+1)):=hm
       ((conv=>whnf);repeat ((first|refine aH.dt (show (i:Int)<(ws.map lP).length by omega) ?_|refine cA (kV _) ?_|refine aZ.no CR ?_|refine aH.df (show ¬((w.val.map gH).length:Int)>0 by omega) ?_|refine aH.df (show ¬((w.val.map gH).length:Int)>4000 by omega) ?_|refine aQ.gS (by omega) (by omega) ?_|refine ye (fC) ?_|refine ye (a2 _ _) ?_|refine ye (a1 _) ?_|refine ye (hg) ?_|refine zz ?_)<;>(conv=>whnf)))
       refine hR (ws.length - (i+1)) _ _ (by omega) ⟨i+1,_,_,S++[w.key],by omega,rfl,hm',aA.aI.set (b:=fun _=>False) hk (.inr (Nat.le_refl _)) _,?_,dK,rfl⟩
       rw [<-MB];exact aA.aD hg
 · obtain rfl:i=ws.length:=by omega
   rw [List.drop_length] at hm
   rw [hm] at hK
   (refine cJ (show ¬((ws.length:Nat):Int)<(ws.map lP).length by omega) ?_)
   exact hK hh hk
end
open Go
def s6 (s p:aU):Bool:=decide (p.length<=s.length)&&(s.take p.length==p)
def kK (D:List dJ) (T:List (aU×Int)) (g:O4):Bool:=
 match g.under with
 |true=>T.all fun t=>!(decide (g.rev<t.2)&&s6 t.1 g.key)
 |false=>decide (((eM D g.key).map fun e=>e.rev).getD 0=g.rev)
def tK (D:List dJ) (T:List (aU×Int)) (gs:List O4) (ws:List ED):Int:=if Bq gs ws then (if gs.all (kK D T) then (if JU D ws then 0 else 3) else 6) else 1
theorem RU {T:List (aU×Int)} {L1 L2:List (V×V)} {x:V×V} (h:T.map O3=L1++x::L2):∃ T1 e T2,T=T1++e::T2/\L1=T1.map O3/\x=(.s e.1,.i .i64 e.2)/\L2=T2.map O3:=by
 obtain ⟨T1,r,rfl,h1,h2⟩:=List.map_eq_append_iff.1 h
 obtain ⟨e,T2,rfl,h3,h4⟩:=List.map_eq_cons_iff.1 h2
 exact ⟨T1,e,T2,rfl,h1.symm,h3.symm,h4.symm⟩
section
variable {P:Program} (hG:bN P AF.fns.get)
include hG
theorem hasp1_ok (s p:aU) (hs:s.length<=9223372036854775807) (hp:p.length<=9223372036854775807):Pure P 283 [.s s,.s p] (·=.b (s6 s p)):=by
 refine aM (hG _ AF.f283 rfl) rfl ?_
 unfold s6
 by_cases h:p.length<=s.length
 · rw [decide_eq_true h,Bool.true_and]
   have hd:((s.take ((p.length:Nat):Int).toNat).drop (Int.toNat 0))=s.take p.length:=by rw [Int.toNat_natCast];rfl
   (refine cJ (show ((s.length:Nat):Int)>=((p.length:Nat):Int) by omega) ?_)
   exact aE rfl rfl
 · rw [decide_eq_false h,Bool.false_and]
   (refine cJ (show ¬((s.length:Nat):Int)>=((p.length:Nat):Int) by omega) ?_)
   exact aE rfl rfl
theorem hasp_ok (s p:aU) (hs:s.length<=9223372036854775807) (hp:p.length<=9223372036854775807):Pure P 205 [.s s,.s p] (·=.b (s6 s p)):=by
 have h:=hasp1_ok hG s p hs hp
 refine aM (hG _ AF.f205 rfl) rfl ?_
 (refine cJ @h ?_)
 exact aE rfl rfl
variable (hH:BW P 104 AF.Br=true)
include hH
theorem gholds_at {h:aA} {a m0 m1 lg:Nat} {rl:Option Nat} {R:Int} {D:List dJ} {T:List (aU×Int)} {L:List j1} {base:Int} (hs:JT h a m0 m1 lg rl R D T L base) (hT:∀ t∈T,t.1.length<=9223372036854775807) (g:O4) (hg:g.key.length<=9223372036854775807) {K:V->aA->Prop}
 (hK:K (.b (kK D T g)) h):aB P 104 [.p (.g a) 0,.agg (wX g)] h K:=by
 obtain ⟨rd,wr,ha⟩:=hs.ga
 have h0:=hs.g0
 have h1:=hs.g1
 obtain ⟨key,rev,un⟩:=g
 cases un
 · have CR:=Av key D
   unfold kK at hK
   dsimp only at hK
   refine Vk hH rfl ?_
   cases Si:eM D key with
   |none=>
    rw [Si] at CR hK
    (refine pU @CR @ha @h0 ?_)
    exact hK
   |some e=>
    rw [Si] at CR hK
    (refine pU @CR @ha @h0 ?_)
    exact hK
 · unfold kK at hK
   dsimp only at hK
   have dM:a≠m1:=hs.ne.2.1
   refine Vk hH rfl ?_
   (refine iU @ha @h1 ?_)
   refine T9.by (fun left fr st=>∃ (Tl:List (aU×Int)) (lo:aA),left=Tl.map O3/\(∀ t∈Tl,t∈T)/\(T.all fun t=>!(decide (rev<t.2)&&s6 t.1 key))=(Tl.all fun t=>!(decide (rev<t.2)&&s6 t.1 key))/\lo.get 0=some (.cs [.s key,.i .i64 rev,.b true])/\
    Fr.le [(25,.p (.l 1) 0),(3,.p (.l 0) 0)] fr/\st=⟨h.remove m1,lo⟩) ⟨T,_,rfl,(fun t ht=>ht),rfl,rfl,dK,rfl⟩ ?_
   rintro left fr st ⟨Tl,lo,rfl,aaY,eV,g0,dO,rfl⟩
   refine ⟨_,dO,fun R hR=>⟨rfl,fun Dh=>?_,fun L1 x L2 hx=>?_⟩⟩
   · have hT:Tl=[]:=List.map_eq_nil_iff.1 Dh
     subst hT
     rw [eV] at hK
     refine ⟨⟨h,lo⟩,St.Gu h1,?_⟩
     (refine zr ?_)
     exact hK
   · obtain ⟨T1,e,T2,rfl,rfl,rfl,rfl⟩:=RU hx
     have BA:=aaY e (by simp)
     have hp:=hasp_ok hG e.1 key (hT e BA) hg
     have next:(decide (rev<e.2)&&s6 e.1 key)=false->∀ bZ bU,Fr.le [(25,.p (.l 1) 0),(3,.p (.l 0) 0)] bZ->bU=⟨h.remove m1,lo⟩->R (T1.map O3++T2.map O3) bZ bU:=fun hf bZ bU hle vO=>
      hR _ _ _ (by simp) ⟨T1++T2,lo,by simp,(fun t ht=>aaY t (by simp at ht ⊢;rcases ht with h|h;exact .inl h;exact .inr (.inr h))),by rw [eV];simp only [List.all_append,List.all_cons,hf,Bool.not_false,Bool.true_and],g0,hle,vO⟩
     by_cases c1:e.2>rev
     · cases c2:s6 e.1 key
       · rw [c2] at hp
         (refine pU @c1 @hp @g0 ?_)
         exact next (by rw [c2,Bool.and_false]) _ _ dK rfl
       · rw [c2] at hp
         have hf:(T.all fun t=>!(decide (rev<t.2)&&s6 t.1 key))=false:=by
          rw [List.all_eq_false]
          exact ⟨e,BA,by rw [c2,decide_eq_true (show rev<e.2 by omega)];decide⟩
         rw [hf] at hK
         (refine pU @c1 @hp @g0 ?_)
         refine ⟨⟨h,lo⟩,St.Gu h1,?_⟩
         (refine zr ?_)
         exact hK
     · (refine iU @c1 @g0 ?_)
       exact next (by rw [decide_eq_false (show ¬rev<e.2 by omega),Bool.false_and]) _ _ dK rfl
theorem ucan_at {h:aA} {a m0 m1 lg:Nat} {rl:Option Nat} {R:Int} {D:List dJ} {T:List (aU×Int)} {L:List j1} {base:Int} (hs:JT h a m0 m1 lg rl R D T L base) (hT:∀ t∈T,t.1.length<=9223372036854775807)
 (gs:List O4) (OA:∀ g∈gs,g.key.length<=9223372036854775807) (HZ:gs.length<=9223372036854775807) (ws:List ED) (hw:∀ w∈ws,RJ w) (hl:ws.length<=9223372036854775807) {K:V->aA->Prop}
 (hK:∀ h',aA.aI (fun _=>False) h h'->K (.i .i64 (tK D T gs ws)) h'):
 aB P 43 [.p (.g a) 0,.agg [.sl none 3 (gs.map wX),.sl none 3 (ws.map lP)]] h K:=by
 have Bf:(ws.map lP).length=ws.length:=List.length_map _
 have hgm:(gs.map wX).length=gs.length:=List.length_map _
 have OF:=fun (K:V->aA->Prop) hK=>umay_at (K:=K) hG (h:=h) gs OA HZ ws hw hl hK
 unfold tK at hK
 refine jG (hG _ AF.f43 rfl) rfl ?_
 cases hm:Bq gs ws
 · rw [hm] at hK OF
   (refine cJ @OF ?_)
   intro h1 k1
   (refine zr ?_)
   exact hK h1 k1
 rw [hm] at hK OF
 simp only [if_true] at hK
 (refine cJ @OF ?_)
 intro h1 k1
 have xJ:=hs.other k1 (fun _ _ x=>x)
 obtain ⟨rd,wr,ha⟩:=xJ.ga
 have h0:=xJ.g0
 (refine zr ?_)
 refine fQ.by (fun q fr st=>∃ (j:Nat) (lo:aA),j<=gs.length/\q=gs.length - j/\gs.all (kK D T)=(gs.drop j).all (kK D T)/\0<lo.next/\lo.get 0=some (.cs [.sl none 3 (gs.map wX),.sl none 3 (ws.map lP)])/\
  Fr.le [(17,.i .i64 j),(16,.i .i64 (gs.map wX).length),(15,.sl none 3 (gs.map wX)),(3,.p (.l 0) 0),(0,.p (.g a) 0)] fr/\st=⟨h1,lo⟩)
  gs.length ⟨0,_,Nat.zero_le _,rfl,rfl,Nat.zero_lt_one,rfl,dK,rfl⟩ ?_
 rintro q fr st ⟨j,lo,hj,rfl,Gf,zJ,g0,dO,rfl⟩
 refine ⟨_,dO,fun R0 Oo=>?_⟩
 by_cases Fv:j<gs.length
 · have he:=List.getElem?_eq_getElem Fv
   have rC:=OA _ (List.getElem_mem Fv)
   have y6:=List.drop_eq_getElem_cons Fv
   generalize gs[j]=g at he rC y6
   rw [y6,List.all_cons] at Gf
   have hho:=fun (K:V->aA->Prop) hK=>gholds_at (K:=K) hG hH xJ hT g rC hK
   have a1:∀ o,(lo.push o).get lo.next=some o:=fun o=>aA.aC _ _
   have a2:∀ o o2,((lo.push o).set lo.next o2).get lo.next=some o2:=fun o o2=>aA.aD (a1 _)
   have a3:∀ o o2,((lo.push o).set lo.next o2).get 0=some (.cs [.sl none 3 (gs.map wX),.sl none 3 (ws.map lP)]):=fun o o2=>aA.gs (by omega) (aA.gp (by omega) g0)
   cases Uc:kK D T g
   · have hgf:gs.all (kK D T)=false:=by rw [Gf,Uc];rfl
     rw [hgf] at hK
     rw [Uc] at hho
     (refine Jk (show (j:Int)<(gs.map wX).length by omega) @hho @he @a2 @a1 ?_)
     exact hK h1 k1
   have Vf:gs.all (kK D T)=(gs.drop (j+1)).all (kK D T):=by rw [Gf,Uc];rfl
   rw [Uc] at hho
   (refine Jk (show (j:Int)<(gs.map wX).length by omega) @hho @he @a2 @a1 ?_)
   exact Oo (gs.length - (j+1)) _ _ (by omega) ⟨j+1,_,by omega,rfl,Vf,Nat.lt_succ_of_lt zJ,a3 _ _,dK,rfl⟩
 obtain rfl:j=gs.length:=by omega
 rw [List.drop_length] at Gf
 rw [show gs.all (kK D T)=true from Gf] at hK
 simp only [if_true] at hK
 clear Oo
 obtain ⟨B,hB⟩:∃ B,B=JU D ws:=⟨_,rfl⟩
 rw [<-hB] at hK
 (refine iU (show ¬((gs.length:Nat):Int)<(gs.map wX).length by omega) @g0 ?_)
 refine fQ.by (fun q fr st=>∃ (i:Nat) (lo:aA),i<=ws.length/\q=ws.length - i/\B=JU D (ws.drop i)/\
  Fr.le [(29,.i .i64 i),(28,.i .i64 (ws.map lP).length),(27,.sl none 3 (ws.map lP)),(0,.p (.g a) 0)] fr/\st=⟨h1,lo⟩)
  ws.length ⟨0,_,Nat.zero_le _,rfl,hB,dK,rfl⟩ ?_
 rintro q fr st ⟨i,lo,hi,rfl,hc,Aj,rfl⟩
 refine ⟨_,Aj,fun R1 CO=>?_⟩
 by_cases eB:i<ws.length
 · have he:=List.getElem?_eq_getElem eB
   have y6:=List.drop_eq_getElem_cons eB
   generalize ws[i]=w at he y6
   rw [y6] at hc
   unfold JU at hc
   have CR:=Av w.key D
   have a1:∀ o,(lo.push o).get lo.next=some o:=fun o=>aA.aC _ _
   have a2:∀ o o2,((lo.push o).set lo.next o2).get lo.next=some o2:=fun o o2=>aA.aD (a1 _)
   have a3:∀ o o2 o3,(((lo.push o).set lo.next o2).push o3).get lo.next=some o2:=fun o o2 o3=>aA.gp (by show lo.next≠lo.next+1;omega) (a2 _ _)
   have a4:∀ o o2 o3,(((lo.push o).set lo.next o2).push o3).get (lo.next+1)=some o3:=fun o o2 o3=>aA.aC _ _
   have a5:∀ o o2 o3 o4,((((lo.push o).set lo.next o2).push o3).set (lo.next+1) o4).get lo.next=some o2:=fun o o2 o3 o4=>aA.gs (by omega) (a3 _ _ _)
   have a6:∀ o o2 o3 o4,((((lo.push o).set lo.next o2).push o3).set (lo.next+1) o4).get (lo.next+1)=some o4:=fun o o2 o3 o4=>aA.aD (a4 _ _ _)
   cases rC:w.gone
   · rw [rC] at hc
     have GQ:B=JU D (ws.drop (i+1)):=by rw [hc];simp
     have dH:lP w=[.s w.key,.sl none 1 (w.val.map gH),.b false]:=by rw [<-rC];rfl
     have fC:=(aG (f:=lP) (j:=((i:Nat):Int).toNat) (by omega) he).trans (congrArg some dH)
     cases Si:eM D w.key with
     |none=>
      rw [Si] at CR
      ((conv=>whnf);repeat ((first|refine aH.dt (show (i:Int)<(ws.map lP).length by omega) ?_|refine aZ.no CR ?_|refine aQ.gS (by omega) (by omega) ?_|refine ye (fC) ?_|refine ye (a2 _ _) ?_|refine ye (a1 _) ?_|refine ye (a3 _ _ _) ?_|refine ye (a4 _ _ _) ?_|refine ye (a5 _ _ _ _) ?_|refine ye (a6 _ _ _ _) ?_|refine ye (ha) ?_|refine ye (h0) ?_|refine zz ?_)<;>(conv=>whnf)))
      exact CO (ws.length - (i+1)) _ _ (by omega) ⟨i+1,_,by omega,rfl,GQ,dK,rfl⟩
     |some e=>
      rw [Si] at CR
      ((conv=>whnf);repeat ((first|refine aH.dt (show (i:Int)<(ws.map lP).length by omega) ?_|refine aZ.of CR ?_|refine aQ.gS (by omega) (by omega) ?_|refine ye (fC) ?_|refine ye (a2 _ _) ?_|refine ye (a1 _) ?_|refine ye (a3 _ _ _) ?_|refine ye (a4 _ _ _) ?_|refine ye (a5 _ _ _ _) ?_|refine ye (a6 _ _ _ _) ?_|refine ye (ha) ?_|refine ye (h0) ?_|refine zz ?_)<;>(conv=>whnf)))
      exact CO (ws.length - (i+1)) _ _ (by omega) ⟨i+1,_,by omega,rfl,GQ,dK,rfl⟩
   · rw [rC] at hc
     have dH:lP w=[.s w.key,.sl none 1 (w.val.map gH),.b true]:=by rw [<-rC];rfl
     have fC:=(aG (f:=lP) (j:=((i:Nat):Int).toNat) (by omega) he).trans (congrArg some dH)
     cases Si:eM D w.key with
     |none=>
      rw [Si] at CR hc
      have GQ:B=false:=by rw [hc];simp
      rw [GQ] at hK
      ((conv=>whnf);repeat ((first|refine aH.dt (show (i:Int)<(ws.map lP).length by omega) ?_|refine aZ.no CR ?_|refine ye (fC) ?_|refine ye (a2 _ _) ?_|refine ye (a1 _) ?_|refine ye (a3 _ _ _) ?_|refine ye (a4 _ _ _) ?_|refine ye (a5 _ _ _ _) ?_|refine ye (a6 _ _ _ _) ?_|refine ye (ha) ?_|refine ye (h0) ?_|refine zz ?_)<;>(conv=>whnf)))
      exact hK h1 k1
     |some e=>
      rw [Si] at CR hc
      have GQ:B=JU D (ws.drop (i+1)):=by rw [hc];simp
      ((conv=>whnf);repeat ((first|refine aH.dt (show (i:Int)<(ws.map lP).length by omega) ?_|refine aZ.of CR ?_|refine aQ.gS (by omega) (by omega) ?_|refine ye (fC) ?_|refine ye (a2 _ _) ?_|refine ye (a1 _) ?_|refine ye (a3 _ _ _) ?_|refine ye (a4 _ _ _) ?_|refine ye (a5 _ _ _ _) ?_|refine ye (a6 _ _ _ _) ?_|refine ye (ha) ?_|refine ye (h0) ?_|refine zz ?_)<;>(conv=>whnf)))
      exact CO (ws.length - (i+1)) _ _ (by omega) ⟨i+1,_,by omega,rfl,GQ,dK,rfl⟩
 · obtain rfl:i=ws.length:=by omega
   rw [List.drop_length] at hc
   rw [show B=true from hc] at hK
   (refine cJ (show ¬((ws.length:Nat):Int)<(ws.map lP).length by omega) ?_)
   exact hK h1 k1
end
open Go
theorem OG {gs:List O4} {ws:List ED} (h:Bq gs ws=true):(1<=ws.length/\ws.length<=64)/\∀ w∈ws,Ve w:=by
 unfold Bq at h
 simp only [Bool.and_eq_true,decide_eq_true_eq] at h
 exact ⟨⟨h.2.1,h.2.2.1⟩,Bn h.2.2.2.2⟩
section
variable {P:Program} (hG:bN P AF.fns.get) (hH:BW P 104 AF.Br=true)
include hG hH
theorem utxn_at (hA:EE P) {h:aA} {a m0 m1 lg:Nat} {rl:Option Nat} {R:Int} {D:List dJ} {T:List (aU×Int)} {L:List j1} {base:Int} (hs:JT h a m0 m1 lg rl R D T L base) (hbd:∀ x∈L,base<x.e.rev/\x.e.rev<=R) (hbR:base<=R) (hR:0<=R/\R<=4611686018427387904) (hn:L.length<=64)
 (hT:∀ t∈T,t.1.length<=9223372036854775807) (gs:List O4) (OA:∀ g∈gs,g.key.length<=9223372036854775807) (HZ:gs.length<=9223372036854775807) (ws:List ED) (hw:∀ w∈ws,RJ w) (hl:ws.length<=9223372036854775807) {K:V->aA->Prop}
 (nY:tK D T gs ws≠0->∀ h',JT h' a m0 m1 lg rl R D T L base->aA.aI (Gm a m0 m1 lg rl) h h'->K (.bY [.i .i64 0,.i .i64 (tK D T gs ws)]) h')
 (hK:tK D T gs ws=0->∀ h' X4 pQ,base<=pQ->pQ<=R+1->JT h' a m0 m1 lg X4 (R+1) ((BT (R+1) ws).foldl nM D) (iQ T (R+1) ws) ((L++BT (R+1) ws).filter fun x=>decide (pQ<x.e.rev)) pQ->((L++BT (R+1) ws).filter fun x=>decide (pQ<x.e.rev)).length<=64->
   (∀ k,X4=some k->rl=some k\/h.next<=k)->aA.aI (Gm a m0 m1 lg rl) h h'->K (.bY [.i .i64 (R+1),.i .i64 0]) h'):
 aB P 10 [.p (.g a) 0,.agg [.sl none 3 (gs.map wX),.sl none 3 (ws.map lP)]] h K:=by
 have Bf:(ws.map lP).length=ws.length:=List.length_map _
 obtain ⟨rd,wr,ha⟩:=hs.ga
 obtain ⟨l1,l2,l3⟩:=hs.lt
 obtain ⟨n1,n2,n3,n4,n5,n6⟩:=hs.ne
 have uH:sI [.p (.g a) 5,.i .i64 1] h=some (.i .i64 (IntKind.i64.wrap (wr+1)),h.set a (.cs [.i .i64 R,.m (.g m0),.m (.g m1),.p (.g lg) 0,.i .i64 rd,.i .i64 (IntKind.i64.wrap (wr+1))])):=by simp only [sI,ha];rfl
 generalize IntKind.i64.wrap (wr+1)=w2 at uH
 obtain ⟨h1,FG⟩:∃ h1:aA,h1=h.set a (.cs [.i .i64 R,.m (.g m0),.m (.g m1),.p (.g lg) 0,.i .i64 rd,.i .i64 w2]):=⟨_,rfl⟩
 have Va:h1.get a=some (.cs [.i .i64 R,.m (.g m0),.m (.g m1),.p (.g lg) 0,.i .i64 rd,.i .i64 w2]):=by rw [FG];exact aA.aD ha
 have k1:aA.aI (fun n=>n=a) h h1:=by rw [FG];exact aA.aI.set (b:=fun n=>n=a) (.refl _ _) (.inl rfl) _
 have xJ:JT h1 a m0 m1 lg rl R D T L base:=⟨⟨by rw [FG];exact l1,by rw [FG];exact l2,by rw [FG];exact l3⟩,hs.ne,hs.nr,⟨rd,w2,Va⟩,(k1.same m0 l2 n1.symm).trans hs.g0,(k1.same m1 l3 n2.symm).trans hs.g1,hs.log.eK k1 n4.symm (fun k hk=>(hs.nr k hk).1)⟩
 have NT:=fun (K:V->aA->Prop) hK=>ucan_at (K:=K) hG hH xJ hT gs OA HZ ws hw hl hK
 rw [FG] at NT
 by_cases he:tK D T gs ws=0
 case neg=>
  refine jG (hG _ AF.f10 rfl) rfl ?_
  (refine pU (hA _ _ _ _ uH) @NT @ha ?_)
  rw [<-FG]
  intro h2 k2
  (refine cJ @he ?_)
  exact nY he h2 (xJ.other k2 (fun _ _ x=>x)) ((k1.mono fun _ _ e=>.inl e).trans (k2.mono fun _ _ e=>e.elim))
 have Kk:Bq gs ws=true:=by
  unfold tK at he
  cases hm:Bq gs ws with
  |true=>rfl
  |false=>rw [hm] at he;simp at he
 obtain ⟨⟨U9,am5⟩,Sz⟩:=OG Kk
 refine jG (hG _ AF.f10 rfl) rfl ?_
 rw [he] at NT
 (refine pU (hA _ _ _ _ uH) @NT @ha ?_)
 rw [<-FG]
 intro h2 k2
 have Sy:=xJ.other k2 (fun _ _ x=>x)
 have Oi:h2.get a=some (.cs [.i .i64 R,.m (.g m0),.m (.g m1),.p (.g lg) 0,.i .i64 rd,.i .i64 w2]):=(k2.same a xJ.lt.1 (fun x=>x)).trans Va
 have TL:aA.aI (fun n=>n=a\/n=m0\/n=m1) h h2:=(k1.mono fun _ _ e=>.inl e).trans (k2.mono fun _ _ e=>e.elim)
 have p1:∀ x,(h2.set a x).get a=some x:=fun x=>aA.aD Oi
 (refine iU @Oi @p1 ?_)
 refine fQ.by (fun q fr st=>∃ (i:Nat) (hh lo:aA) (ev:V),i<=ws.length/\q=ws.length - i/\hh.get a=some (.cs [.i .i64 (R+1),.m (.g m0),.m (.g m1),.p (.g lg) 0,.i .i64 rd,.i .i64 w2])/\
  hh.get m0=some (.mp none (((BT (R+1) (ws.take i)).foldl nM D).map JN))/\hh.get m1=some (.mp none ((iQ T (R+1) (ws.take i)).map O3))/\aA.aI (fun n=>n=a\/n=m0\/n=m1) h hh/\
  ((i=0/\ev=.aV)\/(0<i/\∃ t,ev=.sl (some (.l t)) 4 ((BT (R+1) (ws.take i)).map kU)/\t<lo.next/\lo.get t=some .spare))/\
  Fr.le [(32,.i .i64 i),(31,.i .i64 (ws.map lP).length),(30,.sl none 3 (ws.map lP)),(7,ev),(0,.p (.g a) 0)] fr/\st=⟨hh,lo⟩)
  ws.length ⟨0,_,_,.aV,Nat.zero_le _,rfl,p1 _,aA.gs n1.symm Sy.g0,aA.gs n2.symm Sy.g1,aA.aI.set (b:=fun n=>n=a\/n=m0\/n=m1) TL (.inl (.inl rfl)) _,.inl ⟨rfl,rfl⟩,dK,rfl⟩ ?_
 rintro q fr st ⟨i,hh,lo,ev,hi,rfl,ga,g0,g1,hk,Bp,dO,rfl⟩
 refine ⟨_,dO,fun R1 CO=>?_⟩
 by_cases eB:i<ws.length
 · have hx:=List.getElem?_eq_getElem eB
   have As:=Sz _ (List.getElem_mem eB)
   generalize ws[i]=w at hx As
   have kQ:ws.take (i+1)=ws.take i++[w]:=by rw [List.take_add_one,hx];rfl
   have LV:BT (R+1) (ws.take (i+1))=BT (R+1) (ws.take i)++[⟨⟨w.key,R+1,w.val⟩,w.gone⟩]:=by rw [kQ];unfold BT;simp
   have vO:(BT (R+1) (ws.take (i+1))).foldl nM D=nM ((BT (R+1) (ws.take i)).foldl nM D) ⟨⟨w.key,R+1,w.val⟩,w.gone⟩:=by rw [LV,List.foldl_append];rfl
   have Zt:iQ T (R+1) (ws.take (i+1))=wW (iQ T (R+1) (ws.take i)) w.key (R+1):=by rw [kQ];unfold iQ;rw [List.foldl_append];rfl
   have Kk:=M1 w.key (R+1) (iQ T (R+1) (ws.take i))
   rw [<-Zt] at Kk
   have aaZ:((BT (R+1) (ws.take i)).map kU).length<=100:=by unfold BT;simp;omega
   generalize iQ T (R+1) (ws.take i)=T1 at g1 Kk
   generalize (BT (R+1) (ws.take i)).foldl nM D=D1 at g0 vO
   have Oy:=scop_ok hG ⟨w.key,R+1,w.val⟩ ⟨by have:=As.val;show w.val.length*1<=_;omega,by have:=As.key;show w.key.length<=_;omega⟩
   have a1:∀ o,(lo.push o).get lo.next=some o:=fun o=>aA.aC _ _
   have a2:∀ o o2,((lo.push o).set lo.next o2).get lo.next=some o2:=fun o o2=>aA.aD (a1 _)
   have a3:∀ o o2 x,(((lo.push o).set lo.next o2).push x).get lo.next=some o2:=fun o o2 x=>aA.gp (by show lo.next≠lo.next+1;omega) (a2 _ _)
   have b1:∀ x,(hh.set m1 x).get a=some (.cs [.i .i64 (R+1),.m (.g m0),.m (.g m1),.p (.g lg) 0,.i .i64 rd,.i .i64 w2]):=fun x=>aA.gs n2 ga
   have b2:∀ x,(hh.set m1 x).get m0=some (.mp none (D1.map JN)):=fun x=>aA.gs n3 g0
   have b3:∀ x y,((hh.set m1 x).set m0 y).get a=some (.cs [.i .i64 (R+1),.m (.g m0),.m (.g m1),.p (.g lg) 0,.i .i64 rd,.i .i64 w2]):=fun x y=>aA.gs n1 (b1 x)
   have b4:∀ x y,((hh.set m1 x).set m0 y).get m0=some y:=fun x y=>aA.aD (b2 x)
   have b5:∀ x y,((hh.set m1 x).set m0 y).get m1=some x:=fun x y=>aA.gs n3.symm (aA.aD g1)
   have kk:∀ x y,aA.aI (fun n=>n=a\/n=m0\/n=m1) h ((hh.set m1 x).set m0 y):=fun x y=>aA.aI.set (b:=fun n=>n=a\/n=m0\/n=m1) (aA.aI.set (b:=fun n=>n=a\/n=m0\/n=m1) hk (.inl (.inr (.inr rfl))) _) (.inl (.inr (.inl rfl))) _
   cases rC:w.gone
   · have dH:lP w=[.s w.key,.sl none 1 (w.val.map gH),.b false]:=by rw [<-rC];rfl
     have fC:=(aG (f:=lP) (j:=((i:Nat):Int).toNat) (by omega) hx).trans (congrArg some dH)
     rw [rC] at vO LV
     have MB:=MZ ⟨w.key,R+1,w.val⟩ D1
     have Xc:jJ D1 ⟨w.key,R+1,w.val⟩=(BT (R+1) (ws.take (i+1))).foldl nM D:=vO.symm
     rw [Xc] at MB
     rcases Bp with ⟨Cs,rfl⟩|⟨Cs,t,rfl,MT,AM⟩
     · ((conv=>whnf);repeat ((first|refine aH.dt (show (i:Int)<(ws.map lP).length by omega) ?_|refine cA (Pure.go Oy rfl) ?_|refine aQ.gS (by omega) (by omega) ?_|refine ye (fC) ?_|refine ye (a2 _ _) ?_|refine ye (a1 _) ?_|refine ye (a3 _ _ _) ?_|refine ye (ga) ?_|refine ye (g0) ?_|refine ye (g1) ?_|refine ye (b1 _) ?_|refine ye (b2 _) ?_|refine ye (b3 _ _) ?_|refine ye (b4 _ _) ?_|refine zz ?_)<;>(conv=>whnf)))
       refine CO (ws.length - (i+1)) _ _ (by omega) ⟨i+1,_,_,.sl (some (.l (lo.next+1+1))) 4 [[.i .i64 (R+1),.s w.key,.sl none 1 (w.val.map gH),.b false]],by omega,rfl,b3 _ _,?_,?_,kk _ _,?_,dK,rfl⟩
       · exact (b4 _ _).trans (congrArg (fun x=>some (Obj.mp none x)) MB)
       · exact (b5 _ _).trans (congrArg (fun x=>some (Obj.mp none x)) Kk)
       · refine .inr ⟨by omega,lo.next+1+1,?_,Nat.lt_succ_self _,aA.aC _ _⟩
         rw [LV,Cs];rfl
     · have p0:∀ o o2,(((lo.push o).set lo.next o2).push .spare).get t=some .spare:=fun o o2=>aA.gp (by show t≠lo.next+1;omega) (aA.gs (by omega) (aA.gp (by omega) AM))
       ((conv=>whnf);repeat ((first|refine aH.dt (show (i:Int)<(ws.map lP).length by omega) ?_|refine cA (Pure.go Oy rfl) ?_|refine aQ.gS (by omega) (by omega) ?_|refine aK.mk (by simp [bR] at aaZ ⊢;omega) ?_|refine ye (fC) ?_|refine ye (a2 _ _) ?_|refine ye (a1 _) ?_|refine ye (a3 _ _ _) ?_|refine ye (ga) ?_|refine ye (g0) ?_|refine ye (g1) ?_|refine ye (b1 _) ?_|refine ye (b2 _) ?_|refine ye (b3 _ _) ?_|refine ye (b4 _ _) ?_|refine ye (p0 _ _) ?_|refine zz ?_)<;>(conv=>whnf)))
       refine CO (ws.length - (i+1)) _ _ (by omega) ⟨i+1,_,_,.sl (some (.l (lo.next+1+1))) 4 ((BT (R+1) (ws.take i)).map kU++[[.i .i64 (R+1),.s w.key,.sl none 1 (w.val.map gH),.b false]]),by omega,rfl,b3 _ _,?_,?_,kk _ _,?_,dK,rfl⟩
       · exact (b4 _ _).trans (congrArg (fun x=>some (Obj.mp none x)) MB)
       · exact (b5 _ _).trans (congrArg (fun x=>some (Obj.mp none x)) Kk)
       · refine .inr ⟨by omega,lo.next+1+1,?_,Nat.lt_succ_self _,aA.aC _ _⟩
         rw [LV,List.map_append];rfl
   · have dH:lP w=[.s w.key,.sl none 1 (w.val.map gH),.b true]:=by rw [<-rC];rfl
     have fC:=(aG (f:=lP) (j:=((i:Nat):Int).toNat) (by omega) hx).trans (congrArg some dH)
     rw [rC] at vO LV
     have MB:=M0 w.key D1
     have Xc:LN D1 w.key=(BT (R+1) (ws.take (i+1))).foldl nM D:=vO.symm
     rw [Xc] at MB
     rcases Bp with ⟨Cs,rfl⟩|⟨Cs,t,rfl,MT,AM⟩
     · ((conv=>whnf);repeat ((first|refine aH.dt (show (i:Int)<(ws.map lP).length by omega) ?_|refine aQ.gS (by omega) (by omega) ?_|refine ye (fC) ?_|refine ye (a2 _ _) ?_|refine ye (a1 _) ?_|refine ye (a3 _ _ _) ?_|refine ye (ga) ?_|refine ye (g0) ?_|refine ye (g1) ?_|refine ye (b1 _) ?_|refine ye (b2 _) ?_|refine ye (b3 _ _) ?_|refine ye (b4 _ _) ?_|refine zz ?_)<;>(conv=>whnf)))
       refine CO (ws.length - (i+1)) _ _ (by omega) ⟨i+1,_,_,.sl (some (.l (lo.next+1+1))) 4 [[.i .i64 (R+1),.s w.key,.sl none 1 (w.val.map gH),.b true]],by omega,rfl,b3 _ _,?_,?_,kk _ _,?_,dK,rfl⟩
       · exact (b4 _ _).trans (congrArg (fun x=>some (Obj.mp none x)) MB)
       · exact (b5 _ _).trans (congrArg (fun x=>some (Obj.mp none x)) Kk)
       · refine .inr ⟨by omega,lo.next+1+1,?_,Nat.lt_succ_self _,aA.aC _ _⟩
         rw [LV,Cs];rfl
     · have p0:∀ o o2,(((lo.push o).set lo.next o2).push .spare).get t=some .spare:=fun o o2=>aA.gp (by show t≠lo.next+1;omega) (aA.gs (by omega) (aA.gp (by omega) AM))
       ((conv=>whnf);repeat ((first|refine aH.dt (show (i:Int)<(ws.map lP).length by omega) ?_|refine aQ.gS (by omega) (by omega) ?_|refine aK.mk (by simp [bR] at aaZ ⊢;omega) ?_|refine ye (fC) ?_|refine ye (a2 _ _) ?_|refine ye (a1 _) ?_|refine ye (a3 _ _ _) ?_|refine ye (ga) ?_|refine ye (g0) ?_|refine ye (g1) ?_|refine ye (b1 _) ?_|refine ye (b2 _) ?_|refine ye (b3 _ _) ?_|refine ye (b4 _ _) ?_|refine ye (p0 _ _) ?_|refine zz ?_)<;>(conv=>whnf)))
       refine CO (ws.length - (i+1)) _ _ (by omega) ⟨i+1,_,_,.sl (some (.l (lo.next+1+1))) 4 ((BT (R+1) (ws.take i)).map kU++[[.i .i64 (R+1),.s w.key,.sl none 1 (w.val.map gH),.b true]]),by omega,rfl,b3 _ _,?_,?_,kk _ _,?_,dK,rfl⟩
       · exact (b4 _ _).trans (congrArg (fun x=>some (Obj.mp none x)) MB)
       · exact (b5 _ _).trans (congrArg (fun x=>some (Obj.mp none x)) Kk)
       · refine .inr ⟨by omega,lo.next+1+1,?_,Nat.lt_succ_self _,aA.aC _ _⟩
         rw [LV,List.map_append];rfl
 · obtain rfl:i=ws.length:=by omega
   rw [List.take_length] at g0 g1 Bp
   rcases Bp with ⟨Cs,rfl⟩|⟨Cs,t,rfl,MT,AM⟩
   · omega
   have agG:Cn hh lg rl L base R:=hs.log.eK hk (by rintro (e|e|e);exact n4 e.symm;exact n5 e.symm;exact n6 e.symm) (fun k hZ=>by obtain ⟨r1,r2,r3⟩:=hs.nr k hZ;rintro (e|e|e);exact r1 e;exact r2 e;exact r3 e)
   have mN:(BT (R+1) ws).length=ws.length:=by unfold BT;simp
   have aa0:=fun (K:V->aA->Prop) hK=>ladd_at (K:=K) hG agG hbd hbR (BT (R+1) ws) (by omega) (fun x hx=>by
    obtain ⟨w,Il,rfl⟩:=List.mem_map.1 hx
    have:=Sz w Il
    exact ⟨by have:=this.val;show w.val.length*1<=_;omega,by have:=this.key;show w.key.length<=_;omega⟩) (R:=R+1) (fun x hx=>by
    obtain ⟨w,Il,rfl⟩:=List.mem_map.1 hx
    rfl) (by omega) (by omega) (by omega) hK
   (refine pU (show ¬((ws.length:Nat):Int)<(ws.map lP).length by omega) @aa0 @ga ?_)
   intro h3 X4 pQ hl3 GI EX agH KA WZ
   have hnx:=hk.next
   have Xd:∀ n,n<hh.next->n≠lg->(∀ k,rl=some k->n≠k)->h3.get n=hh.get n:=fun n NL Vw VH=>WZ.same n NL (by rintro (e|e);exact Vw e;exact VH n e rfl)
   have ga3:=(Xd a (by omega) n4 (fun k hZ=>((hs.nr k hZ).1).symm)).trans ga
   have g03:=(Xd m0 (by omega) n5 (fun k hZ=>((hs.nr k hZ).2.1).symm)).trans g0
   have g13:=(Xd m1 (by omega) n6 (fun k hZ=>((hs.nr k hZ).2.2).symm)).trans g1
   have am7:=WZ.next
   (refine cJ @ga3 ?_)
   refine hK he h3 X4 pQ GI EX ⟨⟨by omega,by omega,by omega⟩,hs.ne,fun k hZ=>?_,⟨rd,w2,ga3⟩,g03,g13,hl3⟩ agH (fun k hZ=>?_) ?_
   · rcases KA k hZ with e|e
     · exact hs.nr k e
     · exact ⟨by omega,by omega,by omega⟩
   · rcases KA k hZ with e|e
     · exact .inl e
     · exact .inr (by omega)
   · exact (hk.mono fun n _ e=>by rcases e with e|e|e;exact .inl e;exact .inr (.inl e);exact .inr (.inr (.inl e))).trans (WZ.mono fun n _ e=>by rcases e with e|e;exact .inr (.inr (.inr (.inl e)));exact .inr (.inr (.inr (.inr e))))
end
open Go
structure SS (h:aA) (a:Nat) (R:Int) (D:List dJ) (T:List (aU×Int)):Prop where
 g:∃ m0 m1 lg rl L base,JT h a m0 m1 lg rl R D T L base/\(∀ x∈L,base<x.e.rev/\x.e.rev<=R)/\base<=R/\L.length<=64
 t:∀ t∈T,t.1.length<=9223372036854775807/\t.2<=R
 d:∀ e∈D,RD e
 r:0<=R
theorem SS.eK {h h':aA} {a:Nat} {R:Int} {D:List dJ} {T:List (aU×Int)} (hs:SS h a R D T) (hk:aA.aI (fun _=>False) h h'):SS h' a R D T:=by
 obtain ⟨m0,m1,lg,rl,L,base,h1,h2,h3,h4⟩:=hs.g
 exact ⟨⟨m0,m1,lg,rl,L,base,h1.other hk fun _ _ e=>e,h2,h3,h4⟩,hs.t,hs.d,hs.r⟩
theorem R3 {T:List (aU×Int)} {k:aU} {r:Int}:∀ {t:aU×Int},t∈wW T k r->t=(k,r)\/t∈T:=by
 induction T with
 |nil=>intro t h;exact .inl (by simpa [wW] using h)
 |cons x q ih=>
  intro t h
  unfold wW at h
  split at h
  · cases h with
    |head=>exact .inl rfl
    |tail _ h=>exact .inr (.tail _ h)
  · cases h with
    |head=>exact .inr (.head _)
    |tail _ h=>exact (ih h).imp id fun h=>.tail _ h
theorem Gv {r:Int}:∀ {ws:List ED} {T:List (aU×Int)} {t:aU×Int},t∈iQ T r ws->(t.2=r/\∃ w∈ws,t.1=w.key)\/t∈T
 |[],T,t,h=>.inr h
 |w::ws,T,t,h=>by
  rcases Gv (ws:=ws) (T:=wW T w.key r) h with ⟨h1,w',h2,h3⟩|h1
  · exact .inl ⟨h1,w',.tail _ h2,h3⟩
  · rcases R3 h1 with rfl|h1
    · exact .inl ⟨rfl,w,.head _,rfl⟩
    · exact .inr h1
theorem J3 {k:aU} {r:Int}:∀ {T:List (aU×Int)},(k,r)∈wW T k r
 |[]=>.head _
 |x::q=>by
  unfold wW
  split
  · exact .head _
  · exact .tail _ J3
theorem Gw {k k2:aU} {r:Int}:∀ {T:List (aU×Int)},(k2,r)∈T->(k2,r)∈wW T k r
 |x::q,h=>by
  unfold wW
  split
  · rename_i hk
    cases h with
    |head=>rw [hk];exact .head _
    |tail _ h=>exact .tail _ h
  · cases h with
    |head=>exact .head _
    |tail _ h=>exact .tail _ (Gw h)
theorem EK {k2:aU} {r:Int}:∀ {ws:List ED} {T:List (aU×Int)},(k2,r)∈T->(k2,r)∈iQ T r ws
 |[],_,h=>h
 |w::ws,T,h=>EK (ws:=ws) (T:=wW T w.key r) (Gw h)
theorem Gx {r:Int}:∀ {ws:List ED} {T:List (aU×Int)} {w:ED},w∈ws->(w.key,r)∈iQ T r ws
 |x::ws,T,w,h=>by
  cases h with
  |head=>exact EK (ws:=ws) (T:=wW T x.key r) J3
  |tail _ h=>exact Gx (ws:=ws) (T:=wW T x.key r) h
theorem OJ {D:List dJ} {x:j1} {e:dJ} (h:e∈nM D x):e=x.e\/e∈D:=by
 unfold nM at h
 split at h
 · exact .inr ((JQ _ _).subset h)
 · exact JR h
theorem EL:∀ {l:List j1} {D:List dJ} {e:dJ},e∈l.foldl nM D->e∈D\/∃ x∈l,e=x.e
 |[],D,e,h=>.inl h
 |x::r,D,e,h=>by
  rcases EL (l:=r) (D:=nM D x) h with h|⟨y,h1,h2⟩
  · rcases OJ h with h|h
    · exact .inr ⟨x,.head _,h⟩
    · exact .inl h
  · exact .inr ⟨y,.tail _ h1,h2⟩
section
variable {P:Program} (hG:bN P AF.fns.get) (hH:BW P 104 AF.Br=true)
include hG
theorem Xf {h:aA} {K:V->aA->Prop} (hK:∀ h' a,SS h' a 0 [] []->K (.p (.g a) 0) h'):aB P 9 [] h K:=
 snew_at hG fun h' h1 _ _=>hK h' _ ⟨⟨_,_,_,_,_,_,h1,(fun x hx=>by cases hx),Int.le_refl _,Nat.zero_le _⟩,(fun t ht=>by cases ht),(fun e he=>by cases he),Int.le_refl _⟩
theorem Xg {h:aA} {a:Nat} {R:Int} {D:List dJ} {T:List (aU×Int)} (hs:SS h a R D T) {K:V->aA->Prop} (hK:K (.i .i64 R) h):aB P 16 [.p (.g a) 0] h K:=by
 obtain ⟨m0,m1,lg,rl,L,base,h1,h2,h3,h4⟩:=hs.g
 exact srev_at hG h1 hK
theorem AH (hA:EE P) (hS:Ax P) {h:aA} {a:Nat} {R:Int} {D Ls:List dJ} {T:List (aU×Int)} (hs:SS h a R D T) (hn:D.length<=100000) (hr:jW D Ls) {K:V->aA->Prop}
 (hK:∀ h',SS h' a R D T->K (.sl none 3 (Ls.map lN)) h'):aB P 15 [.p (.g a) 0] h K:=by
 obtain ⟨m0,m1,lg,rl,L,base,h1,h2,h3,h4⟩:=hs.g
 refine aB.tell (slist_at hG hA hS h1 hs.d hn hr (K:=fun v h'=>RE v Ls/\SS h' a R D T) fun lv h' hv h5 _=>⟨hv,⟨m0,m1,lg,rl,L,base,h5,h2,h3,h4⟩,hs.t,hs.d,hs.r⟩) ?_
 rintro v h' ⟨hv,h5⟩
 rcases hv with ⟨rfl,e⟩|rfl
 · exact ⟨_,fun E x hx=>W2 (u:=.aV) (v:=.sl none 3 []) .nil E x hx,by have:=hK h' h5;rw [e] at this;exact this⟩
 · exact ⟨_,fun E x hx=>hx,hK h' h5⟩
include hH
theorem EM (hA:EE P) {h:aA} {a:Nat} {R:Int} {D:List dJ} {T:List (aU×Int)} (hs:SS h a R D T) (hR:R<=1000000) (gs:List O4) (OA:∀ g∈gs,g.key.length<=9223372036854775807) (HZ:gs.length<=100) (ws:List ED) (hw:∀ w∈ws,RJ w/\w.val.length<=100000) (hl:ws.length<=1000) {K:V->aA->Prop}
 (nY:tK D T gs ws≠0->∀ h',SS h' a R D T->K (.bY [.i .i64 0,.i .i64 (tK D T gs ws)]) h')
 (hK:tK D T gs ws=0->∀ h',SS h' a (R+1) ((BT (R+1) ws).foldl nM D) (iQ T (R+1) ws)->K (.bY [.i .i64 (R+1),.i .i64 0]) h'):
 aB P 10 [.p (.g a) 0,.agg [.sl none 3 (gs.map wX),.sl none 3 (ws.map lP)]] h K:=by
 obtain ⟨m0,m1,lg,rl,L,base,h1,h2,h3,h4⟩:=hs.g
 have Im:=hs.r
 refine utxn_at hG hH hA h1 h2 h3 ⟨hs.r,by omega⟩ h4 (fun t ht=>(hs.t t ht).1) gs OA (by omega) ws (fun w hx=>(hw w hx).1) (by omega) (fun he h' h5 _=>nY he h' ⟨⟨m0,m1,lg,rl,L,base,h5,h2,h3,h4⟩,hs.t,hs.d,hs.r⟩) fun he h' X4 pQ b1 b2 h5 h6 _ _=>hK he h' ⟨⟨m0,m1,lg,X4,_,pQ,h5,fun x hx=>?_,by omega,h6⟩,fun t ht=>?_,fun e he=>?_,by omega⟩
 · obtain ⟨a1,a2⟩:=List.mem_filter.1 hx
   refine ⟨by simpa using a2,?_⟩
   rcases List.mem_append.1 a1 with a1|a1
   · have:=(h2 x a1).2;omega
   · unfold BT at a1
     obtain ⟨w,_,rfl⟩:=List.mem_map.1 a1
     exact Int.le_refl _
 · rcases Gv ht with ⟨e1,w,e2,e3⟩|e1
   · exact ⟨by rw [e3];exact (hw w e2).1.key,by omega⟩
   · have:=hs.t t e1;exact ⟨this.1,by omega⟩
 · rcases EL he with h7|⟨x,h7,rfl⟩
   · exact hs.d e h7
   · unfold BT at h7
     obtain ⟨w,TO,rfl⟩:=List.mem_map.1 h7
     have:=hw w TO
     exact ⟨by show w.val.length*1<=_;omega,this.1.key⟩
end
end Go.Eng
