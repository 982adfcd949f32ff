/-
The fast runner: what some functions of the library do: the runner's shortcuts are right.
-/
import Derived.Test.YtdjbjnnfmkoceaaGreatX07
import Derived.Test.YtdjbjnnfmkoceaaGreatX12
import Derived.Test.YtdjbjnnfmkoceaaGreatX13
set_option linter.unusedVariables false
set_option linter.unusedSimpArgs false
namespace Go.Eng
open Go
section
variable {r:V} {m':Mem}
theorem oT {l:List V} {k:V->Cz} (h:HQ l k .none=.some r m'):∃ a,l=[a]/\k a=.some r m':=by
 match l,h with
 |[],h=>cases h
 |[a],h=>exact ⟨a,rfl,h⟩
 |_::_::_,h=>cases h
theorem lX {l:List V} {k:V->V->Cz} (h:FU l k .none=.some r m'):∃ a b,l=[a,b]/\k a b=.some r m':=by
 match l,h with
 |[],h=>cases h
 |[a],h=>cases h
 |[a,b],h=>exact ⟨a,b,rfl,h⟩
 |_::_::_::_,h=>cases h
theorem K6 {l:List V} {k:V->V->V->Cz} (h:Vy l k .none=.some r m'):∃ a b c,l=[a,b,c]/\k a b c=.some r m':=by
 match l,h with
 |[],h=>cases h
 |a::q,h=>
  obtain ⟨b,c,rfl,uJ⟩:=lX (l:=q) (k:=fun b c=>k a b c) h
  exact ⟨a,b,c,rfl,uJ⟩
theorem oU {v:V} {k:Key->Nat->Cz} (h:B8 v k=.some r m'):∃ key off,v=.p key off/\k key off=.some r m':=by
 cases v<;>first|exact ⟨_,_,rfl,h⟩|cases h
theorem K7 {v:V} {k:Nat->List V->List V->Cz} (h:vF .none k v=.some r m'):∃ f a c,v=.fn f a c/\k f a c=.some r m':=by
 cases v<;>first|exact ⟨_,_,_,rfl,h⟩|cases h
theorem oV {v:V} {k:IntKind->Int->Cz} (h:eG .none k v=.some r m'):∃ kd n,v=.i kd n/\k kd n=.some r m':=by
 cases v<;>first|exact ⟨_,_,rfl,h⟩|cases h
theorem zB {v:V} {k:List UInt8->Cz} (h:jD .none k v=.some r m'):∃ s,v=.s s/\k s=.some r m':=by
 cases v<;>first|exact ⟨_,rfl,h⟩|cases h
theorem SZ {v:V} {k:List V->Cz} (h:vA .none k v=.some r m'):∃ cs,v=.agg cs/\k cs=.some r m':=by
 cases v<;>first|exact ⟨_,rfl,h⟩|cases h
theorem K8 {v:V} {k0:Cz} {k:Key->Cz} (h:vM .none k0 k v=.some r m'):(v=.cY/\k0=.some r m')\/∃ key,v=.m key/\k key=.some r m':=by
 cases v<;>first|exact .inl ⟨rfl,h⟩|exact .inr ⟨_,rfl,h⟩|cases h
theorem bI {c:Bool} {k:Cz} (h:aL c k .none=.some r m'):c=true/\k=.some r m':=by
 cases c
 · cases h
 · exact ⟨rfl,h⟩
theorem oW {c:Bool} {k e:Cz} (h:aL c k e=.some r m'):(c=true/\k=.some r m')\/(c=false/\e=.some r m'):=by
 cases c
 · exact .inr ⟨rfl,h⟩
 · exact .inl ⟨rfl,h⟩
theorem fH {δ:Type} {o:Option δ} {k:δ->Cz} (h:aZ o Cz.none k=.some r m'):∃ x,o=some x/\k x=.some r m':=by
 cases o with
 |none=>cases h
 |some x=>exact ⟨x,rfl,h⟩
theorem sS {z:Int} {k:Nat->Cz} (h:iC k (fun _=>Cz.none) z=.some r m'):∃ w:Nat,z=(w:Int)/\k w=.some r m':=by
 cases z with
 |ofNat w=>exact ⟨w,rfl,h⟩
 |negSucc w=>cases h
theorem Ee {m:Mem} {key:Key} {k:Nat->Nat->TH->Obj->Cz} (h:SJ m key k=.some r m') {hh:aA} (hm:gZ m hh):∃ a n t o,key=.g a/\m=.mk n t/\hh.get a=some o/\k a n t o=.some r m':=by
 obtain ⟨n,t⟩:=m
 cases key with
 |l a=>cases h
 |g a=>
  obtain ⟨o,hg,wJ⟩:=fH (show aZ (t.get a a) Cz.none (fun o=>k a n t o)=.some r m' from h)
  exact ⟨a,n,t,o,rfl,rfl,hm.2 a o hg,wJ⟩
theorem gE {m:Mem} {key:Key} {k:Nat->Nat->TH->List V->Cz} (h:sO m key k=.some r m') {hh:aA} (hm:gZ m hh):∃ a n t c,key=.g a/\m=.mk n t/\hh.get a=some (.cs c)/\k a n t c=.some r m':=by
 obtain ⟨a,n,t,o,e1,e2,hg,Gd⟩:=Ee h hm
 cases o with
 |cs c=>exact ⟨a,n,t,c,e1,e2,hg,Gd⟩
 |arr z es=>cases Gd
 |spare=>cases Gd
 |mp kd es=>cases Gd
theorem Ef {m:Mem} {key:Key} {k:List (V×V)->Cz} (h:SK m key k=.some r m') {hh:aA} (hm:gZ m hh):∃ a es,key=.g a/\hh.get a=some (.mp none es)/\k es=.some r m':=by
 obtain ⟨a,n,t,o,e1,e2,hg,S0⟩:=Ee h hm
 cases o with
 |cs c=>cases S0
 |arr z es=>cases S0
 |spare=>cases S0
 |mp kd es=>
  cases kd with
  |none=>exact ⟨a,es,e1,hg,S0⟩
  |some kd=>cases S0
theorem mQ {o:Option V} {v:V} (h:Rs o v=true):o=some v:=by
 cases o with
 |none=>cases h
 |some u=>rw [kS u v h]
end
theorem sT {n:Nat} {t:TH} {hh:aA} (hm:gZ (.mk n t) hh) {a:Nat} {o o0:Obj} (hg:hh.get a=some o0) {k:TH->Cz} {r:Cz} (h:TH.put a o t a 1 k=r):∃ t',k t'=r/\gZ (.mk n t') (hh.set a o):=by
 obtain ⟨t',e1,e2⟩:=TH.put_eq a o t a 1
 rw [e1] at h
 exact ⟨t',h,hm.1,Sx hm.2 hg e2⟩
theorem oY (c:List V) (n:Nat) (v:V):mM c n [v]=c.set n v:=by rw [pF,yP]
section
variable {P:Program}
theorem onceC_ok {once:Nat} (ho:BJ P once):Al P once Rt:=by
 intro rf hA args m v m' h hh hm K hK
 obtain ⟨p,g,rfl,VW⟩:=lX h
 obtain ⟨g,first,cap,rfl,Ys⟩:=K7 VW
 obtain ⟨key,off,rfl,Yt⟩:=oU Ys
 obtain ⟨a,n,t,c,rfl,rfl,hc,hz8⟩:=gE Yt hm
 rcases oW hz8 with ⟨h1,Yu⟩|⟨_,Yu⟩
 · cases Yu
   have h1:=mQ h1
   rw [dS] at h1
   exact ho.done a off g first cap c 1 hh K hc h1 (by decide) (hK _ hm)
 obtain ⟨h1,VX⟩:=bI Yu
 obtain ⟨h1,h2⟩:=bD h1
 have h1:=mQ h1
 have h2:=mQ h2
 rw [dS] at h1 h2
 rw [dA,oY] at VX
 obtain ⟨t1,Pt,Oi⟩:=sT hm hc VX
 cases hq:rf g (pV first cap) (.mk n t1) with
 |none=>rw [hq] at Pt;cases Pt
 |some v1 m1=>
  rw [hq] at Pt
  have uW:=hA g _ _ _ _ hq _ Oi
  rw [kR] at uW
  refine ho.first a off g first cap c hh K hc h1 h2 (uW _ fun h2 hm2=>?_)
  obtain ⟨a',n2,t2,c2,e1,rfl,WL,Yv⟩:=gE (key:=.g a) Pt hm2
  cases e1
  obtain ⟨h3,VY⟩:=bI Yv
  obtain ⟨h3,h4⟩:=bD h3
  have h3:=mQ h3
  have h4:=mQ h4
  rw [dS] at h3 h4
  rw [dA,pF,oY] at VY
  obtain ⟨t3,Yw,hm3⟩:=sT hm2 WL VY
  cases Yw
  exact ⟨c2,WL,h3,h4,hK _ hm3⟩
def S1 (P:Program) (add:Nat):Prop:=∀ (args:List V) (h:aA) (r:V) (h':aA),BT args h=some (r,h')->∀ K:V->aA->Prop,K r h'->aB P add args h K
theorem addC_ok {add:Nat} (ha:S1 P add):Al P add Vz:=by
 intro rf hA args m v m' h hh hm K hK
 obtain ⟨p,d,rfl,Yx⟩:=lX h
 obtain ⟨key,off,rfl,Yy⟩:=oU Yx
 obtain ⟨a,n,t,c,rfl,rfl,hc,Yz⟩:=gE Yy hm
 obtain ⟨x,hx,YA⟩:=fH Yz
 obtain ⟨kd,y,rfl,YB⟩:=oV YA
 obtain ⟨hk,YC⟩:=bI YB
 rw [fG] at hk
 have hk:=of_decide_eq_true hk
 subst hk
 obtain ⟨kd,z,rfl,YD⟩:=oV YC
 obtain ⟨hk,YE⟩:=bI YD
 rw [fG] at hk
 have hk:=of_decide_eq_true hk
 subst hk
 obtain ⟨w,hw,VZ⟩:=sS YE
 rw [DJ,GD] at hw
 rw [gX,dA,oY] at VZ
 obtain ⟨t',YF,R4⟩:=sT hm hc VZ
 cases YF
 rw [dS] at hx
 refine ha _ hh (.i .i64 (w:Int)) (hh.set a (.cs (c.set off (.i .i64 (w:Int))))) ?_ K (hK _ R4)
 simp only [BT,hc,hx,hw]
theorem Bj (x:List UInt8):∀ l,(KI x l).Perm (x::l)
 |[]=>.refl _
 |y::r=>by
  show (aL (EU y x) (y::KI x r) (x::y::r)).Perm _
  rw [bM]
  split
  · exact ((Bj x r).cons y).trans (.swap _ _ _)
  · exact .refl _
theorem Bk {r:V} {m':Mem}:∀ (es:List (V×V)) (k:List (List UInt8)->Cz),KJ es k=.some r m'->∃ ks l:List (List UInt8),es.map Prod.fst=ks.map V.s/\(∀ x∈ks,x.length<=9223372036854775807)/\l.Perm ks/\k l=.some r m'
 |[],k,h=>⟨[],[],rfl,(fun _ h=>by cases h),.refl _,h⟩
 |q::es,k,h=>by
  obtain ⟨x,hx,HZ⟩:=zB (k:=fun x=>aL (Nat.ble (bY x) 9223372036854775807) (KJ es fun l=>spell (KI x l) k) .none) h
  obtain ⟨h1,K9⟩:=bI HZ
  obtain ⟨ks,l,e1,e2,e3,Pu⟩:=Bk es _ K9
  rw [dA] at Pu
  rw [bE,bZ] at h1
  refine ⟨x::ks,KI x l,by simp only [List.map_cons,e1,hx],fun y hy=>?_,(Bj x l).trans (e3.cons x),Pu⟩
  cases hy with
  |head=>exact of_decide_eq_true h1
  |tail _ hy=>exact e2 y hy
theorem Eg:∀ l:List (List UInt8),Ye l=true->l.Pairwise oH
 |[],_=>.nil
 |[x],_=>List.pairwise_singleton _ _
 |x::y::r,h=>by
  obtain ⟨h1,h2⟩:=bD (show bQ (EU x y) (Ye (y::r))=true from h)
  have ih:=Eg (y::r) h2
  rw [q9] at h1
  refine List.pairwise_cons.2 ⟨fun z hz=>?_,ih⟩
  cases hz with
  |head=>exact h1
  |tail _ hz=>exact yZ h1 ((List.pairwise_cons.1 ih).1 z hz)
theorem La {l ks:List wD} (hp:l.Perm ks) (hl:l.Pairwise oH):kW ks=l:=by
 rw [kW,Go.mergeSort_of_perm hp.symm]
 refine List.mergeSort_of_pairwise (hl.imp fun {a b} YG=>?_)
 have h1:oH a b:=YG
 unfold oH at h1
 rw [Go.Proofs.bytesLess_eq,decide_eq_true_eq] at h1
 simp only [Go.leB,decide_eq_true_eq]
 exact List.le_of_lt h1
theorem Lb {l:List wD} (hl:l.Pairwise oH):l.Nodup:=hl.imp fun {a b} YG e=>by
 subst e
 have h1:Op.bytesLess a a=true:=YG
 rw [D7] at h1
 cases h1
theorem Eh:∀ l:List (List UInt8),KK l=l.map HW
 |[]=>rfl
 |x::r=>by show [.s x]::KK r=_;rw [Eh r];rfl
structure H0 (P:Program) (V0 ky:Nat):Prop where
 keys:∀ (h:aA) (k mk:Nat) (c:List V) (es:List (V×V)) (ks:List (List UInt8)),h.get k=some (.cs c)->c[0]? =some (.m (.g mk))->h.get mk=some (.mp none es)->es.map Prod.fst=ks.map V.s->ks.Nodup->
  (∀ x∈ks,x.length<=9223372036854775807)->ks.length<=1000000->∀ K:V->aA->Prop,K (.sl none 1 ((kW ks).map HW)) h->aB P V0 [.fn ky [] [.p (.g k) 0]] h K
 none:∀ (h:aA) (k:Nat) (c:List V),h.get k=some (.cs c)->c[0]? =some .cY->∀ K:V->aA->Prop,K .bU h->aB P V0 [.fn ky [] [.p (.g k) 0]] h K
theorem sortedC_ok {V0 keys:Nat} (hS:H0 P V0 keys):Al P V0 (GP keys):=by
 intro rf hA args m v m' h hh hm K hK
 obtain ⟨q,rfl,S2⟩:=oT h
 obtain ⟨f,fi,ca,rfl,S3⟩:=K7 S2
 obtain ⟨h1,S4⟩:=bI S3
 obtain ⟨h1,h2⟩:=bD h1
 have h1:=gG h1
 have h2:=gG h2
 rw [bE] at h2
 have h2:=List.length_eq_zero_iff.1 h2
 subst h1 h2
 obtain ⟨p,rfl,Ei⟩:=oT S4
 obtain ⟨key,off,rfl,F0⟩:=oU Ei
 obtain ⟨h1,S5⟩:=bI F0
 have h1:=gG h1
 subst h1
 obtain ⟨a,n,t,c,rfl,rfl,hc,S6⟩:=gE S5 hm
 obtain ⟨x,hx,S7⟩:=fH S6
 rw [dS] at hx
 rcases K8 S7 with ⟨rfl,Lc⟩|⟨key,rfl,Lc⟩
 · cases Lc
   exact hS.none hh a c hc hx K (hK _ hm)
 obtain ⟨mk,es,rfl,V1,Pv⟩:=Ef Lc hm
 obtain ⟨ks,l,e1,e2,e3,S8⟩:=Bk es _ Pv
 obtain ⟨h1,Pw⟩:=bI S8
 obtain ⟨h1,h2⟩:=bD h1
 have hup:=Eg l h1
 rw [bE,bZ] at h2
 have h2:=of_decide_eq_true h2
 rw [dA,Eh] at Pw
 cases Pw
 refine hS.keys hh a mk c es ks hc hx V1 e1 (e3.nodup_iff.1 (Lb hup)) e2 (by rw [<-e3.length_eq];exact h2) K ?_
 rw [La e3 hup]
 exact hK _ hm
theorem GX:∀ a b:List UInt8,aL (EU a b) (Int.negSucc 0) (aL (BN a b) (Int.ofNat 0) (Int.ofNat 1))=FK a b
 |[],[]=>rfl
 |[],_::_=>rfl
 |_::_,[]=>rfl
 |a::r,b::q=>by
  have ih:=GX r q
  rw [q9,lD,bM,bM] at ih ⊢
  unfold FK
  rw [show Op.bytesLess (a::r) (b::q)=(decide (a<b)||(a==b&&Op.bytesLess r q)) from rfl]
  by_cases h1:a.toNat<b.toNat
  · have e1:Nat.blt a.toNat b.toNat=true:=by simpa [Nat.blt_eq] using h1
    rw [e1,decide_eq_true (UInt8.lt_iff_toNat_lt.2 h1)]
    simp
  · have e1:Nat.blt a.toNat b.toNat=false:=by rw [Bool.eq_false_iff];exact fun hc=>h1 (by simpa [Nat.blt_eq] using hc)
    rw [e1,decide_eq_false (fun h=>h1 (UInt8.lt_iff_toNat_lt.1 h))]
    by_cases h2:b.toNat<a.toNat
    · have e2:Nat.blt b.toNat a.toNat=true:=by simpa [Nat.blt_eq] using h2
      have cO:a≠b:=fun e=>by subst e;omega
      rw [e2]
      simp [cO]
    · have e2:Nat.blt b.toNat a.toNat=false:=by rw [Bool.eq_false_iff];exact fun hc=>h2 (by simpa [Nat.blt_eq] using hc)
      have he:a=b:=UInt8.toNat_inj.1 (by omega)
      subst he
      rw [e2]
      simpa using ih
def S9 (P:Program) (cmp:Nat):Prop:=∀ (a b:List UInt8) (h:aA) (K:V->aA->Prop),K (.i .i64 (FK a b)) h->aB P cmp [.s a,.s b] h K
theorem cmpC_ok {cmp:Nat} (hC:S9 P cmp):Al P cmp VA:=by
 intro rf hA args m v m' h hh hm K hK
 obtain ⟨x,y,rfl,Ta⟩:=lX h
 obtain ⟨a,rfl,Tb⟩:=zB Ta
 obtain ⟨b,rfl,Tc⟩:=zB Tb
 cases Tc
 refine hC a b hh K ?_
 rw [<-GX]
 exact hK _ hm
def Ej (P:Program) (cl:Nat):Prop:=∀ (b:List Int) (h:aA) (K:V->aA->Prop),b.length*1<=140737488355328->K (.sl none 1 (b.map fun n=>[V.i .u8 n])) h->aB P cl [.sl none 1 (b.map fun n=>[V.i .u8 n])] h K
theorem cloneC_ok {cl:Nat} (hC:Ej P cl) {eU:Oc} (he:Al P cl eU):Al P cl (KL eU):=by
 intro rf hA args m v m' h hh hm K hK
 obtain ⟨x,rfl,zC⟩:=oT h
 have ih:=fun zC=>he rf hA [x] m v m' zC hh hm K hK
 cases x with
 |sl tk z es=>
  cases tk with
  |some tk=>exact ih zC
  |none=>
   rcases oW (show aL (bQ (Nat.beq z 1) (Nat.ble (bY es) 1000000000)) (aZ (tK es) (eU.run rf [.sl none z es] m) fun _=>.some (.sl none 1 es) m) (eU.run rf [.sl none z es] m)=.some v m' from zC) with ⟨h1,Ao⟩|⟨_,Ao⟩
   · obtain ⟨h1,h2⟩:=bD h1
     have h1:=gG h1
     subst h1
     rw [bE,bZ] at h2
     have h2:=of_decide_eq_true h2
     rw [tQ] at Ao
     cases hb:bytesOf es with
     |none=>rw [hb] at Ao;exact ih Ao
     |some y=>
      rw [hb] at Ao
      cases Ao
      obtain ⟨ns,rfl,_⟩:=mA hb
      exact hC ns hh K (by simp at h2;omega) (hK _ hm)
   · exact ih Ao
 |s _=>exact ih zC
 |bU=>exact ih zC
 |ms _ _ _ _=>exact ih zC
 |_=>exact ih h
end
open Go
theorem Co:∀ p s:List UInt8,preB p s=sX s p
 |[],s=>by simp [sX];rfl
 |c::p,[]=>rfl
 |c::p,d::s=>by
  show bQ (Nat.beq (u8N c) (u8N d)) (preB p s)=_
  rw [Co p s,bQ,bM,cZ]
  unfold sX
  by_cases h:c=d
  · subst h
    simp
  · have h1:¬u8N c=u8N d:=fun e=>h (Ku.1 e)
    have h2:¬d=c:=fun e=>h e.symm
    simp [h1,h2]
theorem u9 (key:wD) (rev:Int) (t:wD×Int) (T:List (wD×Int)):uC key rev (t::T)=(!(decide (rev<t.2)&&sX t.1 key)&&uC key rev T):=rfl
theorem lG {r:V} {m':Mem} {key:List UInt8} {rev:Int}:∀ (es:List (V×V)) (k:Bool->Cz),pL key rev es k=.some r m'->∃ T:List (wD×Int),es=T.map Pz/\(∀ t∈T,t.1.length<=9223372036854775807)/\k (uC key rev T)=.some r m'
 |[],k,h=>⟨[],rfl,(fun _ h=>by cases h),h⟩
 |(a,b)::es,k,h=>by
  obtain ⟨s,hs,uJ⟩:=zB (v:=a) (k:=fun s=>aL (Nat.ble (bY s) 9223372036854775807) (eG .none (fun kd n=>aL (lA kd .i64) (aL (bQ (ET rev n) (preB key s)) (pL key rev es fun _=>k false) (pL key rev es k)) .none) b) .none) h
  subst hs
  obtain ⟨h1,wJ⟩:=bI uJ
  rw [bE,bZ] at h1
  have h1:=of_decide_eq_true h1
  obtain ⟨kd,n,rfl,Gd⟩:=oV wJ
  obtain ⟨hk,S0⟩:=bI Gd
  rw [fG] at hk
  have hk:=of_decide_eq_true hk
  subst hk
  rcases oW S0 with ⟨h2,VW⟩|⟨h2,VW⟩
  · obtain ⟨T,e1,e2,Ys⟩:=lG es _ VW
    obtain ⟨h3,h4⟩:=bD h2
    rw [lC] at h3
    rw [Co] at h4
    refine ⟨(s,n)::T,by rw [e1];rfl,fun t ht=>?_,?_⟩
    · cases ht with
      |head=>exact h1
      |tail _ ht=>exact e2 t ht
    · rw [u9]
      simpa [h3,h4] using Ys
  · obtain ⟨T,e1,e2,Yt⟩:=lG es _ VW
    have h3:(decide (rev<n)&&sX s key)=false:=by
     rw [<-Co,<-lC]
     rw [bQ,bM] at h2
     by_cases hc:ET rev n=true
     · rw [if_pos hc] at h2;rw [h2,Bool.and_false]
     · rw [Bool.eq_false_iff.2 hc,Bool.false_and]
    refine ⟨(s,n)::T,by rw [e1];rfl,fun t ht=>?_,?_⟩
    · cases ht with
      |head=>exact h1
      |tail _ ht=>exact e2 t ht
    · rw [u9]
      dsimp only
      rw [h3]
      exact Yt
section
variable {P:Program}
def Lm (P:Program) (ho:Nat):Prop:=∀ {h:aA} {a m0 m1 lg:Nat} {R rd wr:Int},h.get a=some (.cs [.i .i64 R,.m (.g m0),.m (.g m1),.p (.g lg) 0,.i .i64 rd,.i .i64 wr])->∀ {T:List (wD×Int)},h.get m1=some (.mp none (T.map Pz))->(∀ t∈T,t.1.length<=9223372036854775807)->∀ (key:wD) (rev:Int),key.length<=9223372036854775807->∀ {K:V->aA->Prop},
 K (.b (uC key rev T)) h->aB P ho [.p (.g a) 0,.agg [.s key,.i .i64 rev,.b true]] h K
theorem sY {r:V} {m':Mem} {o:Option V} {k:Int->Cz} (h:KM o k=.some r m'):∃ n,o=some (.i .i64 n)/\k n=.some r m':=by
 obtain ⟨x,rfl,h1⟩:=fH h
 obtain ⟨kd,n,rfl,h2⟩:=oV h1
 obtain ⟨hk,h3⟩:=bI h2
 rw [fG] at hk
 have hk:=of_decide_eq_true hk
 subst hk
 exact ⟨n,rfl,h3⟩
theorem Em {r:V} {m':Mem} {o:Option V} {k:Nat->Cz} (h:SL o k=.some r m'):∃ n,o=some (.m (.g n))/\k n=.some r m':=by
 obtain ⟨x,rfl,h1⟩:=fH h
 rcases K8 h1 with ⟨rfl,h2⟩|⟨key,rfl,h2⟩
 · cases h2
 · cases key with
   |g n=>exact ⟨n,rfl,h2⟩
   |l n=>cases h2
theorem Ln {r:V} {m':Mem} {o:Option V} {k:List UInt8->Cz} (h:VB o k=.some r m'):∃ s,o=some (.s s)/\s.length<=9223372036854775807/\k s=.some r m':=by
 obtain ⟨x,rfl,h1⟩:=fH h
 obtain ⟨s,rfl,h2⟩:=zB h1
 obtain ⟨hk,h3⟩:=bI h2
 rw [bE,bZ] at hk
 exact ⟨s,rfl,of_decide_eq_true hk,h3⟩
theorem Lo {r:V} {m':Mem} {o:Option V} {k:Nat->Cz} (h:VC o k=.some r m'):∃ n,o=some (.p (.g n) 0)/\k n=.some r m':=by
 obtain ⟨x,rfl,h1⟩:=fH h
 obtain ⟨key,off,rfl,h2⟩:=oU h1
 obtain ⟨hk,h3⟩:=bI h2
 have hk:=gG hk
 subst hk
 cases key with
 |g n=>exact ⟨n,rfl,h3⟩
 |l n=>cases h3
theorem F3 {r:V} {m':Mem} {c:List V} {k:Nat->Cz} (h:KN c k=.some r m'):∃ (R rd wr:Int) (m0 m1 lg:Nat),c=[.i .i64 R,.m (.g m0),.m (.g m1),.p (.g lg) 0,.i .i64 rd,.i .i64 wr]/\k m1=.some r m':=by
 obtain ⟨h0,h1⟩:=bI h
 have h0:=gG h0
 rw [bE] at h0
 obtain ⟨R,e0,h2⟩:=sY h1
 obtain ⟨m0,e1,h3⟩:=Em h2
 obtain ⟨m1,e2,h4⟩:=Em h3
 obtain ⟨lg,e3,h5⟩:=Lo h4
 obtain ⟨rd,e4,h6⟩:=sY h5
 obtain ⟨wr,e5,h7⟩:=sY h6
 rw [dS] at e0 e1 e2 e3 e4 e5
 refine ⟨R,rd,wr,m0,m1,lg,?_,h7⟩
 match c,h0 with
 |[a,b,c,d,e,f],_=>
  simp only [List.getElem?_cons_zero,List.getElem?_cons_succ,Option.some.injEq] at e0 e1 e2 e3 e4 e5
  rw [e0,e1,e2,e3,e4,e5]
theorem holdsC_ok {ho:Nat} (hH:Lm P ho) {eU:Oc} (he:Al P ho eU):Al P ho (KO eU):=by
 intro rf hA args m v m' h hh hm K hK
 obtain ⟨p,g,rfl,h1⟩:=lX h
 obtain ⟨cs,rfl,h2⟩:=SZ h1
 rcases oW h2 with ⟨c1,h3⟩|⟨_,h3⟩
 case inr=>exact he rf hA _ m v m' h3 hh hm K hK
 have c1:=mQ c1
 obtain ⟨c2,h4⟩:=bI h3
 have c2:=gG c2
 rw [bE] at c2
 obtain ⟨key,off,rfl,h5⟩:=oU h4
 obtain ⟨c3,h6⟩:=bI h5
 have c3:=gG c3
 subst c3
 obtain ⟨a,n,t,c,rfl,rfl,hc,h7⟩:=gE h6 hm
 obtain ⟨R,rd,wr,m0,m1,lg,rfl,h8⟩:=F3 h7
 obtain ⟨m2,es,e2,V1,h9⟩:=Ef h8 hm
 cases e2
 obtain ⟨kx,R5,R3,h11⟩:=Ln h9
 obtain ⟨r,rT,h12⟩:=sY h11
 obtain ⟨T,rfl,hT,h13⟩:=lG es _ h12
 cases h13
 rw [dS] at c1 R5 rT
 have o5:cs=[.s kx,.i .i64 r,.b true]:=by
  match cs,c2 with
  |[x,y,z],_=>
   simp only [List.getElem?_cons_zero,List.getElem?_cons_succ,Option.some.injEq] at c1 R5 rT
   rw [c1,R5,rT]
 subst o5
 exact hH hc V1 hT kx r R3 (hK _ hm)
theorem En {r:Cz}:∀ (p c:List V) (k:List V->Cz) (e:Cz),SN p c k e=r->(∃ q,c=p++q/\k q=r)\/e=r
 |[],c,k,e,h=>.inl ⟨c,rfl,h⟩
 |x::p,[],k,e,h=>.inr h
 |x::p,y::c,k,e,h=>by
  have HZ:aL (fJ x y) (SN p c k e) e=r:=h
  rw [bM] at HZ
  split at HZ
  · rename_i hx
    rcases En p c k e HZ with ⟨q,rfl,K9⟩|K9
    · exact .inl ⟨q,by rw [kS x y hx];rfl,K9⟩
    · exact .inr K9
  · exact .inr HZ
structure PA (P:Program) (mk:Nat) (tF tT:List V):Prop where
 body:iE P mk=true
 first:∀ {h:aA} {a:Nat} {R:List V},a<h.next->h.get a=some (.cs (tF++R))->∀ {K:V->aA->Prop},(∀ h',h'.get a=some (.cs (tT++R))->aA.cF (fun n=>n=a) h h'->h'.next=h.next+2->K (.bO []) h')->aB P mk [.p (.g a) 0] h K
 done:∀ {h:aA} {a:Nat} {c:List V},a<h.next->h.get a=some (.cs c)->c[0]? =some (.i .u32 1)->∀ {K:V->aA->Prop},(∀ h',aA.cF (fun _=>False) h h'->h'.next=h.next+1->K (.bO []) h')->aB P mk [.p (.g a) 0] h K
theorem tmakeC_ok {mk:Nat} {tF tT:List V} (hM:PA P mk tF tT):Al P mk (KP tF tT):=by
 intro rf hA args m v m' h hh hm K hK
 refine aB.bounded hM.body fun Oy=>?_
 obtain ⟨p,rfl,Pu⟩:=oT h
 obtain ⟨key,off,rfl,S2⟩:=oU Pu
 obtain ⟨h1,S3⟩:=bI S2
 have h1:=gG h1
 subst h1
 obtain ⟨a,n,t,c,rfl,rfl,hc,S4⟩:=gE S3 hm
 have ha:=Oy a _ hc
 rcases oW S4 with ⟨h2,Ei⟩|⟨_,Ei⟩
 · have h2:=mQ h2
   rw [dS] at h2
   rw [gX] at Ei
   cases Ei
   refine hM.done ha hc h2 fun h' k1 k2=>hK h' ⟨by rw [k2,hm.1],fun j o hj=>?_⟩
   have E6:=hm.2 j o hj
   rw [k1.2 j (Oy j o E6) (fun Ei=>Ei)]
   exact E6
 · rcases En _ _ _ _ Ei with ⟨R,rfl,F0⟩|F0
   case inr=>cases F0
   rw [dA] at F0
   obtain ⟨t1,e1,e2⟩:=TH.put_eq a (.cs (pV tT R)) t a 1
   rw [e1,gX] at F0
   cases F0
   rw [kR] at e2
   refine hM.first ha hc fun h' k0 k1 k2=>hK h' ⟨by rw [k2,hm.1],fun j o hj=>?_⟩
   rcases e2 j j o (fun e=>e) hj with ⟨rfl,rfl⟩|⟨cO,hj⟩
   · exact k0
   · have E6:=hm.2 j o hj
     rw [k1.2 j (Oy j o E6) cO]
     exact E6
theorem G1:∀ (s n:Nat) (acc:List (List V)),s<=8->Pb s n acc=(mX (n:Int) s).map wE++acc
 |0,n,acc,_=>rfl
 |s+1,n,acc,hs=>by
  show nX (n%256) (fun b=>nX (n/256) fun n=>Pb s n ([.i .u8 (.ofNat b)]::acc))=_
  rw [gX,gX,G1 s _ _ (by omega),HX n s (by omega)]
  simp
  rfl
def G2 (P:Program) (wn:Nat):Prop:=∀ {h:aA} {a:Nat} {pre R:List V},pre.length=297->∀ {es:List (List V)} {k0:Option Nat},a<h.next->HY h a pre R es k0->es.length<=100000000->∀ (n:Int) (size:Nat),size<=8->∀ {K:V->aA->Prop},
 (∀ h' k1,HY h' a pre R (es++(mX n size).map wE) k1->(1<=size->k1=some (h.next+2*size - 1))->aA.cF (fun j=>j=a\/some j=k0) h h'->h'.next=h.next+2*size->K (.bO []) h')->aB P wn [.p (.g a) 0,.i .i64 n,.i .i64 size] h K
theorem Lp {c:List V} {x:V} (h:c[297]? =some x):c=c.take 297++x::c.drop 298/\(c.take 297).length=297/\∀ y,c.set 297 y=c.take 297++y::c.drop 298:=by
 have hl:=(List.getElem?_eq_some_iff.1 h).1
 have h1:(c.take 297).length=297:=by simp;omega
 have h2:c=c.take 297++x::c.drop 298:=by
  have h3:=List.take_append_drop 297 c
  rw [List.drop_eq_getElem_cons hl,(List.getElem?_eq_some_iff.1 h).2] at h3
  exact h3.symm
 refine ⟨h2,h1,fun y=>?_⟩
 rw [List.set_eq_take_append_cons_drop,if_pos hl]
theorem wfin_ok {wn:Nat} (hW:G2 P wn) {a n w s:Nat} {c:List V} {es:List (List V)} {t t0:TH} {x:V} {k0:Option Nat} {hh:aA} (hm:gZ (.mk n t0) hh) (Oy:∀ j o,hh.get j=some o->j<hh.next) (hc:hh.get a=some (.cs c)) (hx:c[297]? =some x)
 (hr:(es=[]/\k0=none/\x=.bU)\/∃ k,k0=some k/\hh.get k=some .spare/\x=.sl (some (.g k)) 1 es) (hl:es.length<=100000000) (HF:1<=s) (hs:s<=8) (ht:∀ j o,t.get j j=some o->some j≠k0/\t0.get j j=some o) {v:V} {m':Mem} (h:KQ a n w s c es t=.some v m')
 {K:V->aA->Prop} (hK:∀ h',gZ m' h'->K v h'):aB P wn [.p (.g a) 0,.i .i64 w,.i .i64 s] hh K:=by
 obtain ⟨q1,q2,q3⟩:=Lp hx
 have ha:=Oy a _ hc
 unfold KQ at h
 rw [gX,gX,dA,dA,oY,kR,G1 s w _ hs,q3,List.append_nil] at h
 obtain ⟨t1,e1,e2⟩:=TH.put_eq (Nat.sub (Nat.add n (Nat.mul 2 s)) 1) .spare t (Nat.sub (Nat.add n (Nat.mul 2 s)) 1) 1
 rw [e1] at h
 obtain ⟨t2,f1,f2⟩:=TH.put_eq a (.cs (c.take 297++.sl (some (.g (Nat.sub (Nat.add n (Nat.mul 2 s)) 1))) 1 (es++(mX (w:Int) s).map wE)::c.drop 298)) t1 a 1
 rw [f1] at h
 cases h
 have hn:hh.next=n:=hm.1
 have e9:HY hh a (c.take 297) (c.drop 298) es k0:=by
  rcases hr with ⟨r1,r2,rfl⟩|⟨k,r1,r2,rfl⟩
  · exact .inl ⟨r1,r2,by rw [hc,<-q1]⟩
  · refine .inr ⟨k,r1,fun e=>?_,Oy k _ r2,r2,by rw [hc,<-q1]⟩
    subst e
    rw [hc] at r2
    cases r2
 refine hW q2 ha e9 hl w s hs fun h' k1 g1 g2 g3 g4=>hK h' ⟨by rw [g4,hn];rfl,fun j o hj=>?_⟩
 have EM:=g2 HF
 have RF:h'.get (n+2*s - 1)=some .spare/\h'.get a=some (.cs (c.take 297++.sl (some (.g (n+2*s - 1))) 1 (es++(mX (w:Int) s).map wE)::c.drop 298)):=by
  rcases g1 with ⟨_,e,_⟩|⟨k,e,_,_,b1,b2⟩
  · rw [EM] at e;cases e
  · rw [EM,hn] at e
    cases e
    exact ⟨b1,b2⟩
 rcases f2 j j o (fun e=>e) hj with ⟨rfl,rfl⟩|⟨cO,hj⟩
 · exact RF.2
 rcases e2 j j o (fun e=>e) hj with ⟨rfl,rfl⟩|⟨_,hj⟩
 · exact RF.1
 obtain ⟨HL,hj⟩:=ht j o hj
 have E6:=hm.2 j o hj
 rw [g3.2 j (Oy j o E6) (fun e=>e.elim cO HL)]
 exact E6
theorem wnumC_ok {wn:Nat} (hb:iE P wn=true) (hW:G2 P wn) {eU:Oc} (he:Al P wn eU):Al P wn (Ru eU):=by
 intro rf hA args m v m' h hh hm K hK
 refine aB.bounded hb fun Oy=>?_
 obtain ⟨p,nv,sv,rfl,S5⟩:=K6 h
 obtain ⟨key,off,rfl,S6⟩:=oU S5
 obtain ⟨h1,S7⟩:=bI S6
 have h1:=gG h1
 subst h1
 obtain ⟨kd,z,rfl,Lc⟩:=oV S7
 obtain ⟨hk,Pv⟩:=bI Lc
 rw [fG] at hk
 have hk:=of_decide_eq_true hk
 subst hk
 cases z with
 |negSucc w=>exact he rf hA _ m v m' Pv hh hm K hK
 |ofNat w=>
 obtain ⟨kd,sz,rfl,S8⟩:=oV (k:=fun kd sz=>aL (lA kd .i64) (iC _ _ sz) .none) Pv
 obtain ⟨hk,Pw⟩:=bI S8
 rw [fG] at hk
 have hk:=of_decide_eq_true hk
 subst hk
 obtain ⟨s,rfl,Ta⟩:=sS Pw
 obtain ⟨h1,Tb⟩:=bI Ta
 obtain ⟨h1,h2⟩:=bD h1
 rw [bZ] at h1 h2
 have h1:=of_decide_eq_true h1
 have h2:=of_decide_eq_true h2
 obtain ⟨a,n,t,c,rfl,rfl,hc,Tc⟩:=gE Tb hm
 obtain ⟨x,hx,zC⟩:=fH Tc
 rw [dS] at hx
 cases x with
 |bU=>exact wfin_ok hW hm Oy hc hx (.inl ⟨rfl,rfl,rfl⟩) (Nat.zero_le _) h1 h2 (fun j o hj=>⟨(fun e=>by cases e),hj⟩) zC hK
 |sl tk zz es=>
  obtain ⟨kk,rfl,Ao⟩:=fH (o:=tk) (k:=fun kk=>j5 kk _ _) zC
  cases kk with
  |l k0=>cases Ao
  |g k0=>
  obtain ⟨h3,Y0⟩:=bI (c:=bQ (Nat.beq zz 1) (Nat.ble (bY es) 100000000)) Ao
  obtain ⟨h3,h4⟩:=bD h3
  have h3:=gG h3
  subst h3
  rw [bE,bZ] at h4
  have h4:=of_decide_eq_true h4
  obtain ⟨o,ho,Wg⟩:=fH Y0
  cases o with
  |spare=>
   obtain ⟨t',e1,e2⟩:=TH.del_eq k0 t k0
   have Wh:TH.del k0 t k0 (fun t=>KQ a n w s c es t)=.some v m':=Wg
   rw [e1] at Wh
   refine wfin_ok hW hm Oy hc hx (.inr ⟨k0,rfl,hm.2 k0 _ ho,rfl⟩) h4 h1 h2 (fun j o hj=>?_) Wh hK
   obtain ⟨f1,f2⟩:=e2 j j o (fun e=>e) hj
   exact ⟨fun e=>f1 (Option.some.inj e),f2⟩
  |_=>cases Wg
 |_=>cases zC
def PB (P:Program) (rn:Nat):Prop:=∀ {h:aA} {a:Nat} {pre R:List V},pre.length=297->∀ {X:List Int} {E:List (List V)},h.get a=some (.cs (pre++.sl none 1 (X.map wE++E)::R))->∀ (size:Nat),X.length=size->size<=8->(X.map wE++E).length<=1000000000->(∀ x∈X,0<=x/\x<256)->mP X<=9223372036854775807->∀ {K:V->aA->Prop},
 K (.i .i64 (mP X)) (h.set a (.cs (pre++.sl none 1 E::R)))->aB P rn [.p (.g a) 0,.i .i64 size] h K
theorem G3 {r:Cz}:∀ (s:Nat) (es:List (List V)) (acc:Nat) (Y:List Int) (k:Nat->List (List V)->Cz) (e:Cz),Yf s es acc k e=r->mP Y=acc->r≠.none->(∃ X E,X.length=s/\es=X.map wE++E/\(∀ x∈X,0<=x/\x<256)/\∃ n:Nat,mP (Y++X)=n/\k n E=r)\/e=r
 |0,es,acc,Y,k,e,h,hy,hr=>.inl ⟨[],es,rfl,rfl,(fun _ h=>by cases h),acc,by rw [List.append_nil,hy],h⟩
 |s+1,[],acc,Y,k,e,h,hy,hr=>.inr h
 |s+1,x::q,acc,Y,k,e,h,hy,hr=>by
  cases r with
  |none=>exact absurd rfl hr
  |some v m'=>
  obtain ⟨u,rfl,Y1⟩:=oT (l:=x) (k:=fun v=>eG .none (fun kd z=>aL (lA kd .u8) (iC (fun b=>aL (Nat.ble b 255) (nX (Nat.add (Nat.mul acc 256) b) fun acc=>Yf s q acc k e) .none) (fun _=>.none) z) .none) v) h
  obtain ⟨kd,z,rfl,Y2⟩:=oV Y1
  obtain ⟨hk,Y3⟩:=bI Y2
  rw [fG] at hk
  have hk:=of_decide_eq_true hk
  subst hk
  obtain ⟨b,rfl,Y4⟩:=sS Y3
  obtain ⟨h1,Wi⟩:=bI Y4
  rw [bZ] at h1
  have h1:=of_decide_eq_true h1
  rw [gX] at Wi
  rcases G3 s q _ (Y++[(b:Int)]) k e Wi (by rw [pM,hy];rfl) (fun e=>by cases e) with ⟨X,E,e1,e2,e3,n,e4,Tn⟩|Tn
  · refine .inl ⟨(b:Int)::X,E,by simp [e1],by rw [e2];rfl,fun x hx=>?_,n,by rw [<-e4];simp,Tn⟩
    cases hx with
    |head=>omega
    |tail _ hx=>exact e3 x hx
  · exact .inr Tn
theorem rnumC_ok {rn:Nat} (hR:PB P rn) {eU:Oc} (he:Al P rn eU):Al P rn (Rv eU):=by
 intro rf hA args m v m' h hh hm K hK
 obtain ⟨p,sv,rfl,To⟩:=lX h
 have ih:=fun To=>he rf hA [p,sv] m v m' To hh hm K hK
 obtain ⟨key,off,rfl,Y5⟩:=oU To
 obtain ⟨h1,Y6⟩:=bI Y5
 have h1:=gG h1
 subst h1
 obtain ⟨kd,sz,rfl,Y7⟩:=oV Y6
 obtain ⟨hk,Y8⟩:=bI Y7
 rw [fG] at hk
 have hk:=of_decide_eq_true hk
 subst hk
 obtain ⟨s,rfl,Y9⟩:=sS Y8
 obtain ⟨h2,Za⟩:=bI Y9
 rw [bZ] at h2
 have h2:=of_decide_eq_true h2
 obtain ⟨a,n,t,c,rfl,rfl,hc,Zb⟩:=gE Za hm
 obtain ⟨x,hx,PC⟩:=fH Zb
 rw [dS] at hx
 cases x with
 |bU=>exact ih PC
 |sl tk z es=>
  cases tk with
  |some tk=>cases PC
  |none=>
  obtain ⟨h3,Zc⟩:=bI (c:=bQ (Nat.beq z 1) (Nat.ble (bY es) 1000000000)) PC
  obtain ⟨h3,h4⟩:=bD h3
  have h3:=gG h3
  subst h3
  rw [bE,bZ] at h4
  have h4:=of_decide_eq_true h4
  rcases G3 s es 0 [] _ _ Zc rfl (fun e=>by cases e) with ⟨X,E,e1,rfl,e3,w,e4,Tp⟩|Tp
  case inr=>exact ih Tp
  rw [List.nil_append] at e4
  obtain ⟨h5,Wj⟩:=bI Tp
  rw [bZ] at h5
  have h5:=of_decide_eq_true h5
  obtain ⟨q1,q2,q3⟩:=Lp hx
  rw [dA,oY,q3] at Wj
  obtain ⟨t',Zd,R4⟩:=sT hm hc Wj
  cases Zd
  refine hR q2 (by rw [hc,<-q1]) s e1 h2 h4 e3 (by rw [e4];omega) ?_
  rw [e4]
  exact hK _ R4
 |_=>cases PC
end
end Go.Eng
