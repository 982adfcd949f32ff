/-
The fast runner: guards, the table of letters, numbers written and read: the runner's shortcuts are right.
-/
import Derived.Test.YtdjbjnnfmkoceaaGreatY12
import Derived.Test.YtdjbjnnfmkoceaaGreatY13
import Derived.Test.YtdjbjnnfmkoceaaGreatY11
import Derived.Test.YtdjbjnnfmkoceaaGreatY07
set_option linter.unusedVariables false
set_option linter.unusedSimpArgs false
namespace Go.Eng
open Go
theorem Jg:∀ p s:List UInt8,preB p s=AP s p
 |[],s=>by simp [AP];rfl
 |c::p,[]=>rfl
 |c::p,d::s=>by
  show cC (Nat.beq (Cf c) (Cf d)) (preB p s)=_
  rw [Jg p s,cC,b9,eN]
  unfold AP
  by_cases h:c=d
  · subst h
    simp
  · have h1:¬Cf c=Cf d:=fun e=>h (VK.1 e)
    have h2:¬d=c:=fun e=>h e.symm
    simp [h1,h2]
theorem BX (key:Ck) (rev:Int) (t:Ck×Int) (T:List (Ck×Int)):Br key rev (t::T)=(!(decide (rev<t.2)&&AP t.1 key)&&Br key rev T):=rfl
theorem rB {r:V} {m':Mem} {key:List UInt8} {rev:Int}:∀ (es:List (V×V)) (k:Bool->Cz),wL key rev es k=.some r m'->∃ T:List (Ck×Int),es=T.map tsQ/\(∀ t∈T,t.1.length<=9223372036854775807)/\k (Br key rev T)=.some r m'
 |[],k,h=>⟨[],rfl,(fun _ h=>by cases h),h⟩
 |(a,b)::es,k,h=>by
  obtain ⟨s,hs,BF⟩:=D1 (v:=a) (k:=fun s=>aT (Nat.ble (cK s) 9223372036854775807) (fU .none (fun kd n=>aT (qZ kd .i64) (aT (cC (Ov rev n) (preB key s)) (wL key rev es fun _=>k false) (wL key rev es k)) .none) b) .none) h
  subst hs
  obtain ⟨h1,Cy⟩:=bY BF
  rw [bT,cL] at h1
  have h1:=of_decide_eq_true h1
  obtain ⟨kd,n,rfl,PQ⟩:=vD Cy
  obtain ⟨hk,hz4⟩:=bY PQ
  rw [g9] at hk
  have hk:=of_decide_eq_true hk
  subst hk
  rcases vE hz4 with ⟨h2,hz5⟩|⟨h2,hz5⟩
  · obtain ⟨T,e1,e2,hz6⟩:=rB es _ hz5
    obtain ⟨h3,h4⟩:=bN h2
    rw [q7] at h3
    rw [Jg] at h4
    refine ⟨(s,n)::T,by rw [e1];rfl,fun t ht=>?_,?_⟩
    · cases ht with
      |head=>exact h1
      |tail _ ht=>exact e2 t ht
    · rw [BX]
      simpa [h3,h4] using hz6
  · obtain ⟨T,e1,e2,hz7⟩:=rB es _ hz5
    have h3:(decide (rev<n)&&AP s key)=false:=by
     rw [<-Jg,<-q7]
     rw [cC,b9] at h2
     by_cases hc:Ov rev n=true
     · rw [if_pos hc] at h2;rw [h2,Bool.and_false]
     · rw [Bool.eq_false_iff.2 hc,Bool.false_and]
    refine ⟨(s,n)::T,by rw [e1];rfl,fun t ht=>?_,?_⟩
    · cases ht with
      |head=>exact h1
      |tail _ ht=>exact e2 t ht
    · rw [BX]
      dsimp only
      rw [h3]
      exact hz7
section
variable {P:Program}
def WE (P:Program) (ho:Nat):Prop:=∀ {h:aC} {a m0 m1 lg:Nat} {R rd wr:Int},h.get a=some (.cs [.i .i64 R,.m (.g m0),.m (.g m1),.p (.g lg) 0,.i .i64 rd,.i .i64 wr])->∀ {T:List (Ck×Int)},h.get m1=some (.mp none (T.map tsQ))->(∀ t∈T,t.1.length<=9223372036854775807)->∀ (key:Ck) (rev:Int),key.length<=9223372036854775807->∀ {K:V->aC->Prop},
 K (.b (Br key rev T)) h->aE P ho [.p (.g a) 0,.agg [.s key,.i .i64 rev,.b true]] h K
theorem AS {r:V} {m':Mem} {o:Option V} {k:Int->Cz} (h:V0 o k=.some r m'):∃ n,o=some (.i .i64 n)/\k n=.some r m':=by
 obtain ⟨x,rfl,h1⟩:=hO h
 obtain ⟨kd,n,rfl,h2⟩:=vD h1
 obtain ⟨hk,h3⟩:=bY h2
 rw [g9] at hk
 have hk:=of_decide_eq_true hk
 subst hk
 exact ⟨n,rfl,h3⟩
theorem LS {r:V} {m':Mem} {o:Option V} {k:Nat->Cz} (h:aj0 o k=.some r m'):∃ n,o=some (.m (.g n))/\k n=.some r m':=by
 obtain ⟨x,rfl,h1⟩:=hO h
 rcases Wz h1 with ⟨rfl,h2⟩|⟨key,rfl,h2⟩
 · cases h2
 · cases key with
   |g n=>exact ⟨n,rfl,h2⟩
   |l n=>cases h2
theorem WG {r:V} {m':Mem} {o:Option V} {k:List UInt8->Cz} (h:ao7 o k=.some r m'):∃ s,o=some (.s s)/\s.length<=9223372036854775807/\k s=.some r m':=by
 obtain ⟨x,rfl,h1⟩:=hO h
 obtain ⟨s,rfl,h2⟩:=D1 h1
 obtain ⟨hk,h3⟩:=bY h2
 rw [bT,cL] at hk
 exact ⟨s,rfl,of_decide_eq_true hk,h3⟩
theorem WH {r:V} {m':Mem} {o:Option V} {k:Nat->Cz} (h:ao8 o k=.some r m'):∃ n,o=some (.p (.g n) 0)/\k n=.some r m':=by
 obtain ⟨x,rfl,h1⟩:=hO h
 obtain ⟨key,off,rfl,h2⟩:=u9 h1
 obtain ⟨hk,h3⟩:=bY h2
 have hk:=jG hk
 subst hk
 cases key with
 |g n=>exact ⟨n,rfl,h3⟩
 |l n=>cases h3
theorem Pw {r:V} {m':Mem} {c:List V} {k:Nat->Cz} (h:V1 c k=.some r m'):∃ (R rd wr:Int) (m0 m1 lg:Nat),c=[.i .i64 R,.m (.g m0),.m (.g m1),.p (.g lg) 0,.i .i64 rd,.i .i64 wr]/\k m1=.some r m':=by
 obtain ⟨h0,h1⟩:=bY h
 have h0:=jG h0
 rw [bT] at h0
 obtain ⟨R,e0,h2⟩:=AS h1
 obtain ⟨m0,e1,h3⟩:=LS h2
 obtain ⟨m1,e2,h4⟩:=LS h3
 obtain ⟨lg,e3,h5⟩:=WH h4
 obtain ⟨rd,e4,h6⟩:=AS h5
 obtain ⟨wr,e5,h7⟩:=AS h6
 rw [fD] at e0 e1 e2 e3 e4 e5
 refine ⟨R,rd,wr,m0,m1,lg,?_,h7⟩
 match c,h0 with
 |[a,b,c,d,e,f],_=>
  simp only [List.getElem?_cons_zero,List.getElem?_cons_succ,Option.some.injEq] at e0 e1 e2 e3 e4 e5
  rw [e0,e1,e2,e3,e4,e5]
theorem holdsC_ok {ho:Nat} (hH:WE P ho) {gL:Oc} (he:EV P ho gL):EV P ho (V2 gL):=by
 intro rf hA args m v m' h hh hm K hK
 obtain ⟨p,g,rfl,h1⟩:=r9 h
 obtain ⟨cs,rfl,h2⟩:=akO h1
 rcases vE h2 with ⟨c1,h3⟩|⟨_,h3⟩
 case inr=>exact he rf hA _ m v m' h3 hh hm K hK
 have c1:=sY c1
 obtain ⟨c2,h4⟩:=bY h3
 have c2:=jG c2
 rw [bT] at c2
 obtain ⟨key,off,rfl,h5⟩:=u9 h4
 obtain ⟨c3,h6⟩:=bY h5
 have c3:=jG c3
 subst c3
 obtain ⟨a,n,t,c,rfl,rfl,hc,h7⟩:=jC h6 hm
 obtain ⟨R,rd,wr,m0,m1,lg,rfl,h8⟩:=Pw h7
 obtain ⟨m2,es,e2,hmp,h9⟩:=LN h8 hm
 cases e2
 obtain ⟨kx,hkv,h10,h11⟩:=WG h9
 obtain ⟨r,Ag,h12⟩:=AS h11
 obtain ⟨T,rfl,hT,h13⟩:=rB es _ h12
 cases h13
 rw [fD] at c1 hkv Ag
 have vW:cs=[.s kx,.i .i64 r,.b true]:=by
  match cs,c2 with
  |[x,y,z],_=>
   simp only [List.getElem?_cons_zero,List.getElem?_cons_succ,Option.some.injEq] at c1 hkv Ag
   rw [c1,hkv,Ag]
 subst vW
 exact hH hc hmp hT kx r h10 (hK _ hm)
theorem LU {r:Cz}:∀ (p c:List V) (k:List V->Cz) (e:Cz),aj1 p c k e=r->(∃ q,c=p++q/\k q=r)\/e=r
 |[],c,k,e,h=>.inl ⟨c,rfl,h⟩
 |x::p,[],k,e,h=>.inr h
 |x::p,y::c,k,e,h=>by
  have RQ:aT (gK x y) (aj1 p c k e) e=r:=h
  rw [b9] at RQ
  split at RQ
  · rename_i hx
    rcases LU p c k e RQ with ⟨q,rfl,WA⟩|WA
    · exact .inl ⟨q,by rw [lQ x y hx];rfl,WA⟩
    · exact .inr WA
  · exact .inr RQ
structure af4 (P:Program) (mk:Nat) (tF tT:List V):Prop where
 body:lF P mk=true
 first:∀ {h:aC} {a:Nat} {R:List V},a<h.next->h.get a=some (.cs (tF++R))->∀ {K:V->aC->Prop},(∀ h',h'.get a=some (.cs (tT++R))->aC.dE (fun n=>n=a) h h'->h'.next=h.next+2->K (.bC []) h')->aE P mk [.p (.g a) 0] h K
 done:∀ {h:aC} {a:Nat} {c:List V},a<h.next->h.get a=some (.cs c)->c[0]? =some (.i .u32 1)->∀ {K:V->aC->Prop},(∀ h',aC.dE (fun _=>False) h h'->h'.next=h.next+1->K (.bC []) h')->aE P mk [.p (.g a) 0] h K
theorem tmakeC_ok {mk:Nat} {tF tT:List V} (hM:af4 P mk tF tT):EV P mk (V3 tF tT):=by
 intro rf hA args m v m' h hh hm K hK
 refine aE.bounded hM.body fun hbd=>?_
 obtain ⟨p,rfl,af1⟩:=uZ h
 obtain ⟨key,off,rfl,akR⟩:=u9 af1
 obtain ⟨h1,akS⟩:=bY akR
 have h1:=jG h1
 subst h1
 obtain ⟨a,n,t,c,rfl,rfl,hc,akT⟩:=jC akS hm
 have ha:=hbd a _ hc
 rcases vE akT with ⟨h2,LQ⟩|⟨_,LQ⟩
 · have h2:=sY h2
   rw [fD] at h2
   rw [j4] at LQ
   cases LQ
   refine hM.done ha hc h2 fun h' k1 k2=>hK h' ⟨by rw [k2,hm.1],fun j o hj=>?_⟩
   have OE:=hm.2 j o hj
   rw [k1.2 j (hbd j o OE) (fun LQ=>LQ)]
   exact OE
 · rcases LU _ _ _ _ LQ with ⟨R,rfl,Pv⟩|Pv
   case inr=>cases Pv
   rw [eO] at Pv
   obtain ⟨t1,e1,e2⟩:=TH.put_eq a (.cs (wX tT R)) t a 1
   rw [e1,j4] at Pv
   cases Pv
   rw [qQ] at e2
   refine hM.first ha hc fun h' k0 k1 k2=>hK h' ⟨by rw [k2,hm.1],fun j o hj=>?_⟩
   rcases e2 j j o (fun e=>e) hj with ⟨rfl,rfl⟩|⟨dX,hj⟩
   · exact k0
   · have OE:=hm.2 j o hj
     rw [k1.2 j (hbd j o OE) dX]
     exact OE
theorem QI:∀ (s n:Nat) (acc:List (List V)),s<=8->afF s n acc=(tD (n:Int) s).map Cl++acc
 |0,n,acc,_=>rfl
 |s+1,n,acc,hs=>by
  show uH (n%256) (fun b=>uH (n/256) fun n=>afF s n ([.i .u8 (.ofNat b)]::acc))=_
  rw [j4,j4,QI s _ _ (by omega),RN n s (by omega)]
  simp
  rfl
def QJ (P:Program) (wn:Nat):Prop:=∀ {h:aC} {a:Nat} {pre R:List V},pre.length=297->∀ {es:List (List V)} {k0:Option Nat},a<h.next->RO h a pre R es k0->es.length<=100000000->∀ (n:Int) (size:Nat),size<=8->∀ {K:V->aC->Prop},
 (∀ h' k1,RO h' a pre R (es++(tD n size).map Cl) k1->(1<=size->k1=some (h.next+2*size - 1))->aC.dE (fun j=>j=a\/some j=k0) h h'->h'.next=h.next+2*size->K (.bC []) h')->aE P wn [.p (.g a) 0,.i .i64 n,.i .i64 size] h K
theorem WI {c:List V} {x:V} (h:c[297]? =some x):c=c.take 297++x::c.drop 298/\(c.take 297).length=297/\∀ y,c.set 297 y=c.take 297++y::c.drop 298:=by
 have hl:=(List.getElem?_eq_some_iff.1 h).1
 have h1:(c.take 297).length=297:=by simp;omega
 have h2:c=c.take 297++x::c.drop 298:=by
  have h3:=List.take_append_drop 297 c
  rw [List.drop_eq_getElem_cons hl,(List.getElem?_eq_some_iff.1 h).2] at h3
  exact h3.symm
 refine ⟨h2,h1,fun y=>?_⟩
 rw [List.set_eq_take_append_cons_drop,if_pos hl]
theorem wfin_ok {wn:Nat} (hW:QJ P wn) {a n w s:Nat} {c:List V} {es:List (List V)} {t t0:TH} {x:V} {k0:Option Nat} {hh:aC} (hm:j6 (.mk n t0) hh) (hbd:∀ j o,hh.get j=some o->j<hh.next) (hc:hh.get a=some (.cs c)) (hx:c[297]? =some x)
 (hr:(es=[]/\k0=none/\x=.aB)\/∃ k,k0=some k/\hh.get k=some .spare/\x=.sl (some (.g k)) 1 es) (hl:es.length<=100000000) (Ev:1<=s) (hs:s<=8) (ht:∀ j o,t.get j j=some o->some j≠k0/\t0.get j j=some o) {v:V} {m':Mem} (h:V4 a n w s c es t=.some v m')
 {K:V->aC->Prop} (hK:∀ h',j6 m' h'->K v h'):aE P wn [.p (.g a) 0,.i .i64 w,.i .i64 s] hh K:=by
 obtain ⟨q1,q2,q3⟩:=WI hx
 have ha:=hbd a _ hc
 unfold V4 at h
 rw [j4,j4,eO,eO,vH,qQ,QI s w _ hs,q3,List.append_nil] at h
 obtain ⟨t1,e1,e2⟩:=TH.put_eq (Nat.sub (Nat.add n (Nat.mul 2 s)) 1) .spare t (Nat.sub (Nat.add n (Nat.mul 2 s)) 1) 1
 rw [e1] at h
 obtain ⟨t2,f1,f2⟩:=TH.put_eq a (.cs (c.take 297++.sl (some (.g (Nat.sub (Nat.add n (Nat.mul 2 s)) 1))) 1 (es++(tD (w:Int) s).map Cl)::c.drop 298)) t1 a 1
 rw [f1] at h
 cases h
 have hn:hh.next=n:=hm.1
 have gU:RO hh a (c.take 297) (c.drop 298) es k0:=by
  rcases hr with ⟨r1,r2,rfl⟩|⟨k,r1,r2,rfl⟩
  · exact .inl ⟨r1,r2,by rw [hc,<-q1]⟩
  · refine .inr ⟨k,r1,fun e=>?_,hbd k _ r2,r2,by rw [hc,<-q1]⟩
    subst e
    rw [hc] at r2
    cases r2
 refine hW q2 ha gU hl w s hs fun h' k1 g1 g2 g3 g4=>hK h' ⟨by rw [g4,hn];rfl,fun j o hj=>?_⟩
 have Ol:=g2 Ev
 have aiG:h'.get (n+2*s - 1)=some .spare/\h'.get a=some (.cs (c.take 297++.sl (some (.g (n+2*s - 1))) 1 (es++(tD (w:Int) s).map Cl)::c.drop 298)):=by
  rcases g1 with ⟨_,e,_⟩|⟨k,e,_,_,b1,b2⟩
  · rw [Ol] at e;cases e
  · rw [Ol,hn] at e
    cases e
    exact ⟨b1,b2⟩
 rcases f2 j j o (fun e=>e) hj with ⟨rfl,rfl⟩|⟨dX,hj⟩
 · exact aiG.2
 rcases e2 j j o (fun e=>e) hj with ⟨rfl,rfl⟩|⟨_,hj⟩
 · exact aiG.1
 obtain ⟨Ru,hj⟩:=ht j o hj
 have OE:=hm.2 j o hj
 rw [g3.2 j (hbd j o OE) (fun e=>e.elim dX Ru)]
 exact OE
theorem wnumC_ok {wn:Nat} (hb:lF P wn=true) (hW:QJ P wn) {gL:Oc} (he:EV P wn gL):EV P wn (ah4 gL):=by
 intro rf hA args m v m' h hh hm K hK
 refine aE.bounded hb fun hbd=>?_
 obtain ⟨p,nv,sv,rfl,akU⟩:=Wx h
 obtain ⟨key,off,rfl,akV⟩:=u9 akU
 obtain ⟨h1,akW⟩:=bY akV
 have h1:=jG h1
 subst h1
 obtain ⟨kd,z,rfl,WD⟩:=vD akW
 obtain ⟨hk,af2⟩:=bY WD
 rw [g9] at hk
 have hk:=of_decide_eq_true hk
 subst hk
 cases z with
 |negSucc w=>exact he rf hA _ m v m' af2 hh hm K hK
 |ofNat w=>
 obtain ⟨kd,sz,rfl,akX⟩:=vD (k:=fun kd sz=>aT (qZ kd .i64) (iC _ _ sz) .none) af2
 obtain ⟨hk,af3⟩:=bY akX
 rw [g9] at hk
 have hk:=of_decide_eq_true hk
 subst hk
 obtain ⟨s,rfl,akZ⟩:=AQ af3
 obtain ⟨h1,ak0⟩:=bY akZ
 obtain ⟨h1,h2⟩:=bN h1
 rw [cL] at h1 h2
 have h1:=of_decide_eq_true h1
 have h2:=of_decide_eq_true h2
 obtain ⟨a,n,t,c,rfl,rfl,hc,ak1⟩:=jC ak0 hm
 obtain ⟨x,hx,D2⟩:=hO ak1
 rw [fD] at hx
 cases x with
 |aB=>exact wfin_ok hW hm hbd hc hx (.inl ⟨rfl,rfl,rfl⟩) (Nat.zero_le _) h1 h2 (fun j o hj=>⟨(fun e=>by cases e),hj⟩) D2 hK
 |sl tk zz es=>
  obtain ⟨kk,rfl,E3⟩:=hO (o:=tk) (k:=fun kk=>pF kk _ _) D2
  cases kk with
  |l k0=>cases E3
  |g k0=>
  obtain ⟨h3,azT⟩:=bY (c:=cC (Nat.beq zz 1) (Nat.ble (cK es) 100000000)) E3
  obtain ⟨h3,h4⟩:=bN h3
  have h3:=jG h3
  subst h3
  rw [bT,cL] at h4
  have h4:=of_decide_eq_true h4
  obtain ⟨o,ho,aqH⟩:=hO azT
  cases o with
  |spare=>
   obtain ⟨t',e1,e2⟩:=TH.del_eq k0 t k0
   have aqI:TH.del k0 t k0 (fun t=>V4 a n w s c es t)=.some v m':=aqH
   rw [e1] at aqI
   refine wfin_ok hW hm hbd hc hx (.inr ⟨k0,rfl,hm.2 k0 _ ho,rfl⟩) h4 h1 h2 (fun j o hj=>?_) aqI hK
   obtain ⟨f1,f2⟩:=e2 j j o (fun e=>e) hj
   exact ⟨fun e=>f1 (Option.some.inj e),f2⟩
  |_=>cases aqH
 |_=>cases D2
def af5 (P:Program) (rn:Nat):Prop:=∀ {h:aC} {a:Nat} {pre R:List V},pre.length=297->∀ {X:List Int} {E:List (List V)},h.get a=some (.cs (pre++.sl none 1 (X.map Cl++E)::R))->∀ (size:Nat),X.length=size->size<=8->(X.map Cl++E).length<=1000000000->(∀ x∈X,0<=x/\x<256)->sX X<=9223372036854775807->∀ {K:V->aC->Prop},
 K (.i .i64 (sX X)) (h.set a (.cs (pre++.sl none 1 E::R)))->aE P rn [.p (.g a) 0,.i .i64 size] h K
theorem QK {r:Cz}:∀ (s:Nat) (es:List (List V)) (acc:Nat) (Y:List Int) (k:Nat->List (List V)->Cz) (e:Cz),rdB s es acc k e=r->sX Y=acc->r≠.none->(∃ X E,X.length=s/\es=X.map Cl++E/\(∀ x∈X,0<=x/\x<256)/\∃ n:Nat,sX (Y++X)=n/\k n E=r)\/e=r
 |0,es,acc,Y,k,e,h,hy,hr=>.inl ⟨[],es,rfl,rfl,(fun _ h=>by cases h),acc,by rw [List.append_nil,hy],h⟩
 |s+1,[],acc,Y,k,e,h,hy,hr=>.inr h
 |s+1,x::q,acc,Y,k,e,h,hy,hr=>by
  cases r with
  |none=>exact absurd rfl hr
  |some v m'=>
  obtain ⟨u,rfl,azU⟩:=uZ (l:=x) (k:=fun v=>fU .none (fun kd z=>aT (qZ kd .u8) (iC (fun b=>aT (Nat.ble b 255) (uH (Nat.add (Nat.mul acc 256) b) fun acc=>rdB s q acc k e) .none) (fun _=>.none) z) .none) v) h
  obtain ⟨kd,z,rfl,azV⟩:=vD azU
  obtain ⟨hk,azW⟩:=bY azV
  rw [g9] at hk
  have hk:=of_decide_eq_true hk
  subst hk
  obtain ⟨b,rfl,azX⟩:=AQ azW
  obtain ⟨h1,aqJ⟩:=bY azX
  rw [cL] at h1
  have h1:=of_decide_eq_true h1
  rw [j4] at aqJ
  rcases QK s q _ (Y++[(b:Int)]) k e aqJ (by rw [wP,hy];rfl) (fun e=>by cases e) with ⟨X,E,e1,e2,e3,n,e4,ak2⟩|ak2
  · refine .inl ⟨(b:Int)::X,E,by simp [e1],by rw [e2];rfl,fun x hx=>?_,n,by rw [<-e4];simp,ak2⟩
    cases hx with
    |head=>omega
    |tail _ hx=>exact e3 x hx
  · exact .inr ak2
theorem rnumC_ok {rn:Nat} (hR:af5 P rn) {gL:Oc} (he:EV P rn gL):EV P rn (ah5 gL):=by
 intro rf hA args m v m' h hh hm K hK
 obtain ⟨p,sv,rfl,ak3⟩:=r9 h
 have ih:=fun ak3=>he rf hA [p,sv] m v m' ak3 hh hm K hK
 obtain ⟨key,off,rfl,azY⟩:=u9 ak3
 obtain ⟨h1,azZ⟩:=bY azY
 have h1:=jG h1
 subst h1
 obtain ⟨kd,sz,rfl,az0⟩:=vD azZ
 obtain ⟨hk,az1⟩:=bY az0
 rw [g9] at hk
 have hk:=of_decide_eq_true hk
 subst hk
 obtain ⟨s,rfl,az2⟩:=AQ az1
 obtain ⟨h2,az3⟩:=bY az2
 rw [cL] at h2
 have h2:=of_decide_eq_true h2
 obtain ⟨a,n,t,c,rfl,rfl,hc,az4⟩:=jC az3 hm
 obtain ⟨x,hx,af6⟩:=hO az4
 rw [fD] at hx
 cases x with
 |aB=>exact ih af6
 |sl tk z es=>
  cases tk with
  |some tk=>cases af6
  |none=>
  obtain ⟨h3,az5⟩:=bY (c:=cC (Nat.beq z 1) (Nat.ble (cK es) 1000000000)) af6
  obtain ⟨h3,h4⟩:=bN h3
  have h3:=jG h3
  subst h3
  rw [bT,cL] at h4
  have h4:=of_decide_eq_true h4
  rcases QK s es 0 [] _ _ az5 rfl (fun e=>by cases e) with ⟨X,E,e1,rfl,e3,w,e4,ak4⟩|ak4
  case inr=>exact ih ak4
  rw [List.nil_append] at e4
  obtain ⟨h5,aqK⟩:=bY ak4
  rw [cL] at h5
  have h5:=of_decide_eq_true h5
  obtain ⟨q1,q2,q3⟩:=WI hx
  rw [eO,vH,q3] at aqK
  obtain ⟨t',az6,hm'⟩:=AR hm hc aqK
  cases az6
  refine hR q2 (by rw [hc,<-q1]) s e1 h2 h4 e3 (by rw [e4];omega) ?_
  rw [e4]
  exact hK _ hm'
 |_=>cases af6
end
open Go
def wY:Nat->AC->AC
 |0,_=>.skip
 |n+1,.seq a b=>.seq a (wY n b)
 |_+1,_=>.no
def Gq:Nat->AC->AC
 |0,c=>c
 |n+1,.seq _ b=>Gq n b
 |_+1,c=>c
theorem RA {r:Rz} {k:Fc->SM->Rz} {f:Fc} {m:SM} (h:jB r k=.p8 f m):∃ f1 m1,r=.p8 f1 m1/\k f1 m1=.p8 f m:=by
 cases r with
 |none=>cases h
 |p8 f1 m1=>exact ⟨f1,m1,rfl,h⟩
 |exit id f1 m1=>cases h
 |ret f1 m1=>cases h
section
variable {A:bK} {rf:Rf} (hA:Ci rf A)
include hA
theorem runPreA_ok:∀ (n:Nat) (c:AC) {f f1:Fc} {m m1:SM},(bX eJ (wY n c)).run rf f m=.p8 f1 m1->∀ {fr:Fr} {st:St} {Q:Ex->Fr->St->Prop},sE f fr->fB m st->(∀ fr st,sE f1 fr->fB m1 st->rX A (Gq n c) Q fr st)->rX A c Q fr st
 |0,c,f,f1,m,m1,h,fr,st,Q,hf,hs,hQ=>by
  cases (show Rz.p8 f m=.p8 f1 m1 from h)
  exact hQ fr st hf hs
 |n+1,c,f,f1,m,m1,h,fr,st,Q,hf,hs,hQ=>by
  cases c with
  |seq a b=>
   obtain ⟨f2,m2,h1,h2⟩:=RA (show jB ((bX eJ a).run rf f m) (fun f m=>(bX eJ (wY n b)).run rf f m)=.p8 f1 m1 from h)
   exact CJ hA h1 hf hs fun fr st hf hs=>runPreA_ok n b h2 hf hs hQ
  |_=>cases h
theorem ask_ok {t s d g:Nat} {k X R:V} {rest:List cG} {C:AC} {f:Fc} {m:SM} {fr:Fr} {st:St} (hf:sE f fr) (hs:fB m st) (hX:(jE s).run f=X) (hpX:X.pass=some X) (hpk:k.pass=some k) (hc:∀ K:V->aC->Prop,K R st.g->A g [X,k] st.g K)
 {f':Fc} {m':SM} (h:((mC (some t) []).run X f fun f=>(mC (some d) []).run R f fun f=>(uJ rest).run rf f m)=.p8 f' m') {Q:Ex->Fr->St->Prop} (hQ:∀ fr st,sE f' fr->fB m' st->rX A C Q fr st):
 rX A (.seq (.EF (⟨some t,.mv (.t s),none,[]⟩::⟨some d,.call g [.t t,.c k],none,[]⟩::rest)) C) Q fr st:=by
 have hr:Rz.p8 f' m'≠.none:=fun e=>by cases e
 obtain ⟨_,f1,hf1,h1⟩:=hf.put hr h
 obtain ⟨_,f2,hf2,h2⟩:=hf1.put hr h1
 have hev:fr.get s=X:=by rw [<-hf s];exact hX
 have hw:(dM rest ((fr.next (some t) X []).next (some d) R []) st).wp A (pE (rW (rX A C Q) Q)):=
  cOps_ok hA hr (fun x hx=>by
   obtain ⟨f3,m3,e,a,b⟩:=hx
   cases e
   exact hQ _ _ a b) rest f2 m _ st hf2 hs h2
 simp only [rX]
 have h1:bH.ev fr (.t s)=X:=hev
 have h2:bH.BB (fr.next (some t) X []) [.t t,.c k]=[X,k]:=by
  simp [bH.BB,bH.ev,Fr.next,Fr.get]
 have h3:eM [X,k]=some [X,k]:=by simp [eM,hpX,hpk]
 simp only [dM,step,h1,T.bind,Fr.bW,h2,h3,T.opt,T.wp]
 exact hc _ hw
end
noncomputable def uP (s:Nat) (r:Rz):V:=Rz.rec (motive:=fun _=>V) .bL (fun f _=>(jE s).run f) (fun _ _ _=>.bL) (fun _ _=>.bL) r
noncomputable def okE (rs:List RV) (f:Fc) (m:SM):Bool:=Cz.rec (motive:=fun _=>Bool) false (fun v _=>gK v (.b true)) ((DB rs).run f m)
noncomputable def wM (rs:List RV) (r:Rz):Bool:=Rz.rec (motive:=fun _=>Bool) false (fun f m=>okE rs f m) (fun _ _ _=>false) (fun f m=>okE rs f m) r
noncomputable def RB (rf:Rf) (t d:Nat) (X R:V) (rest:List cG) (f:Fc) (m:SM):Rz:=(mC (some t) []).run X f fun f=>(mC (some d) []).run R f fun f=>(uJ rest).run rf f m
noncomputable def Ln (r:Rz) (k:Fc->SM->Rz):Rz:=Rz.rec (motive:=fun _=>Rz) .none k (fun _ _ _=>.none) (fun _ _=>.none) r
noncomputable def Pj (rf:Rf) (t d:Nat) (X R:V) (rest:List cG) (C:AC) (r:Rz):Rz:=Ln r fun f m=>Ln (RB rf t d X R rest f m) fun f m=>(bX eJ C).run rf f m
noncomputable def Lo (rf:Rf) (c:AC) (X Y:V):Rz:=pf2 [X,Y] 0 Qa fun f=>(bX eJ c).run rf f (.mk 0 .nil 0 .nil)
theorem Qu {rs:List RV} {f:Fc} {m:SM} (h:okE rs f m=true) {fr:Fr} {st:St} (hf:sE f fr) (hs:fB m st):xT fr st rs=some (.b true):=by
 unfold okE at h
 cases hq:(DB rs).run f m with
 |none=>rw [hq] at h;cases h
 |some v mm=>
  rw [hq] at h
  obtain ⟨h3,_⟩:=endC_ok hf hs hq
  rw [h3,lQ _ _ (show gK v (.b true)=true from h)]
theorem Qv {rs:List RV} {r:Rz} (h:wM rs r=true) {e:Ex} {fr:Fr} {st:St} (hk:RzK r e fr st):mT rs (fun v _=>v=.b true) e fr st:=by
 cases r with
 |none=>cases h
 |exit id f m=>cases h
 |p8 f m=>
  obtain ⟨rfl,a,b⟩:=hk
  simp only [mT,Qu (show okE rs f m=true from h) a b]
 |ret f m=>
  obtain ⟨rfl,a,b⟩:=hk
  simp only [mT,Qu (show okE rs f m=true from h) a b]
theorem asks_ok {P:Program} {rf:Rf} (hA:Ci rf (aE P)) {fn:Nat} {F:aF} (hk:iY P fn F=true) (hn:F.nparams=2) {n1 n2 t1 d1 s1 t2 d2 s2 g:Nat} {k:V} {qS pO:List cG} {C1 B2 C2:AC}
 (e1:Gq n1 F.body=.seq (.EF (⟨some t1,.mv (.t s1),none,[]⟩::⟨some d1,.call g [.t t1,.c k],none,[]⟩::qS)) C1)
 (e2:Gq n2 C1=.seq (.seq (.EF (⟨some t2,.mv (.t s2),none,[]⟩::⟨some d2,.call g [.t t2,.c k],none,[]⟩::pO)) B2) C2)
 {X Y R1 R2:V} (hX:X.pass=some X) (hY:Y.pass=some Y) (hkp:k.pass=some k) (c1:∀ (h:aC) (K:V->aC->Prop),K R1 h->aE P g [X,k] h K) (c2:∀ (h:aC) (K:V->aC->Prop),K R2 h->aE P g [Y,k] h K)
 (Ev:uP s1 (Lo rf (wY n1 F.body) X Y)=X) (wV:uP s2 (Pj rf t1 d1 X R1 qS (wY n2 C1) (Lo rf (wY n1 F.body) X Y))=Y)
 (h:wM F.results (jB (Pj rf t2 d2 Y R2 pO B2 (Pj rf t1 d1 X R1 qS (wY n2 C1) (Lo rf (wY n1 F.body) X Y))) fun f m=>(bX eJ C2).run rf f m)=true):
 aE P fn [X,Y] CH (fun v _=>v=.b true):=by
 have hj:∀ {Z:V},Z.pass=some Z->V.bL=Z->False:=fun hp e=>by subst e;cases hp
 refine fn_ok hk (by rw [hn];rfl) ?_
 cases h1:Lo rf (wY n1 F.body) X Y with
 |none=>rw [h1] at Ev;exact (hj hX Ev).elim
 |exit id f m=>rw [h1] at Ev;exact (hj hX Ev).elim
 |ret f m=>rw [h1] at Ev;exact (hj hX Ev).elim
 |p8 f1 m1=>
 rw [h1] at Ev wV h
 obtain ⟨f0,h1,uB⟩:=wJ (by intro e;cases e) h1
 refine runPreA_ok hA n1 F.body h1 uB (noL_ok (h:=CH) ⟨rfl,fun _ _ e=>by cases e⟩) fun fr st hf hs=>?_
 rw [e1]
 replace wV:uP s2 (Ln (RB rf t1 d1 X R1 qS f1 m1) fun f m=>(bX eJ (wY n2 C1)).run rf f m)=Y:=wV
 replace h:wM F.results (jB (Pj rf t2 d2 Y R2 pO B2 (Ln (RB rf t1 d1 X R1 qS f1 m1) fun f m=>(bX eJ (wY n2 C1)).run rf f m)) fun f m=>(bX eJ C2).run rf f m)=true:=h
 cases h2:RB rf t1 d1 X R1 qS f1 m1 with
 |none=>rw [h2] at wV;exact (hj hY wV).elim
 |exit id f m=>rw [h2] at wV;exact (hj hY wV).elim
 |ret f m=>rw [h2] at wV;exact (hj hY wV).elim
 |p8 f2 m2=>
 rw [h2] at wV h
 refine ask_ok hA hf hs Ev hX hkp (c1 _) h2 fun fr st hf hs=>?_
 replace wV:uP s2 ((bX eJ (wY n2 C1)).run rf f2 m2)=Y:=wV
 replace h:wM F.results (jB (Pj rf t2 d2 Y R2 pO B2 ((bX eJ (wY n2 C1)).run rf f2 m2)) fun f m=>(bX eJ C2).run rf f m)=true:=h
 cases h3:(bX eJ (wY n2 C1)).run rf f2 m2 with
 |none=>rw [h3] at wV;exact (hj hY wV).elim
 |exit id f m=>rw [h3] at wV;exact (hj hY wV).elim
 |ret f m=>rw [h3] at wV;exact (hj hY wV).elim
 |p8 f3 m3=>
 rw [h3] at wV h
 refine runPreA_ok hA n2 C1 h3 hf hs fun fr st hf hs=>?_
 rw [e2]
 replace h:wM F.results (jB (Ln (RB rf t2 d2 Y R2 pO f3 m3) fun f m=>(bX eJ B2).run rf f m) fun f m=>(bX eJ C2).run rf f m)=true:=h
 cases h4:RB rf t2 d2 Y R2 pO f3 m3 with
 |none=>rw [h4] at h;cases h
 |exit id f m=>rw [h4] at h;cases h
 |ret f m=>
  rw [h4] at h;cases h
 |p8 f4 m4=>
 rw [h4] at h
 replace h:wM F.results (jB ((bX eJ B2).run rf f4 m4) fun f m=>(bX eJ C2).run rf f m)=true:=h
 show rX (aE P) (.seq (.EF (⟨some t2,.mv (.t s2),none,[]⟩::⟨some d2,.call g [.t t2,.c k],none,[]⟩::pO)) B2) (rW (rX (aE P) C2 (mT F.results _)) (mT F.results _)) fr st
 refine ask_ok hA hf hs wV hY hkp (c2 _) h4 fun fr st hf hs=>?_
 cases h5:(bX eJ B2).run rf f4 m4 with
 |none=>rw [h5] at h;cases h
 |exit id f m=>rw [h5] at h;cases h
 |ret f m=>
  rw [h5] at h
  refine code2_ok noGc_ok hA B2 f4 m4 fr st _ _ h5 (fun e=>by cases e) hf hs fun e fr st hk=>?_
  have l5:=hk
  obtain ⟨rfl,_⟩:=l5
  exact Qv (show wM F.results (.ret f m)=true from h) hk
 |p8 f5 m5=>
  rw [h5] at h
  refine code2_ok noGc_ok hA B2 f4 m4 fr st _ _ h5 (fun e=>by cases e) hf hs fun e fr st hk=>?_
  obtain ⟨rfl,a,b⟩:=hk
  replace h:wM F.results ((bX eJ C2).run rf f5 m5)=true:=h
  exact code2_ok noGc_ok hA C2 f5 m5 fr st _ _ rfl (fun e=>by rw [e] at h;cases h) a b fun e fr st hk=>Qv h hk
end Go.Eng
