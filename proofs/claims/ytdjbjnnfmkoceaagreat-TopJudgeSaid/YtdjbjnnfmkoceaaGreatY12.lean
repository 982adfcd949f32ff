/-
The fast runner: what some functions of the library do: the runner's shortcuts are right.
-/
import Derived.Test.YtdjbjnnfmkoceaaGreatY07
import Derived.Test.YtdjbjnnfmkoceaaGreatY11
import Derived.Maps.RangeRun
import Derived.Test.YtdjbjnnfmkoceaaGreatY05
import Derived.Test.YtdjbjnnfmkoceaaGreatRows
import Derived.KernelRfl
set_option linter.unusedVariables false
set_option linter.unusedSimpArgs false
set_option maxRecDepth 1000000
namespace Go.Eng
open Go
section
variable {r:V} {m':Mem}
theorem uZ {l:List V} {k:V->Cz} (h:Ry l k .none=.some r m'):∃ a,l=[a]/\k a=.some r m':=by
 match l,h with
 |[],h=>cases h
 |[a],h=>exact ⟨a,rfl,h⟩
 |_::_::_,h=>cases h
theorem r9 {l:List V} {k:V->V->Cz} (h:Pg l k .none=.some r m'):∃ a b,l=[a,b]/\k a b=.some r m':=by
 match l,h with
 |[],h=>cases h
 |[a],h=>cases h
 |[a,b],h=>exact ⟨a,b,rfl,h⟩
 |_::_::_::_,h=>cases h
theorem Wx {l:List V} {k:V->V->V->Cz} (h:ao4 l k .none=.some r m'):∃ a b c,l=[a,b,c]/\k a b c=.some r m':=by
 match l,h with
 |[],h=>cases h
 |a::q,h=>
  obtain ⟨b,c,rfl,BF⟩:=r9 (l:=q) (k:=fun b c=>k a b c) h
  exact ⟨a,b,c,rfl,BF⟩
theorem u9 {v:V} {k:Key->Nat->Cz} (h:I0 v k=.some r m'):∃ key off,v=.p key off/\k key off=.some r m':=by
 cases v<;>first|exact ⟨_,_,rfl,h⟩|cases h
theorem Wy {v:V} {k:Nat->List V->List V->Cz} (h:vF .none k v=.some r m'):∃ f a c,v=.fn f a c/\k f a c=.some r m':=by
 cases v<;>first|exact ⟨_,_,_,rfl,h⟩|cases h
theorem vD {v:V} {k:IntKind->Int->Cz} (h:fU .none k v=.some r m'):∃ kd n,v=.i kd n/\k kd n=.some r m':=by
 cases v<;>first|exact ⟨_,_,rfl,h⟩|cases h
theorem D1 {v:V} {k:List UInt8->Cz} (h:mB .none k v=.some r m'):∃ s,v=.s s/\k s=.some r m':=by
 cases v<;>first|exact ⟨_,rfl,h⟩|cases h
theorem akO {v:V} {k:List V->Cz} (h:vA .none k v=.some r m'):∃ cs,v=.agg cs/\k cs=.some r m':=by
 cases v<;>first|exact ⟨_,rfl,h⟩|cases h
theorem Wz {v:V} {k0:Cz} {k:Key->Cz} (h:vM .none k0 k v=.some r m'):(v=.eG/\k0=.some r m')\/∃ key,v=.m key/\k key=.some r m':=by
 cases v<;>first|exact .inl ⟨rfl,h⟩|exact .inr ⟨_,rfl,h⟩|cases h
theorem bY {c:Bool} {k:Cz} (h:aT c k .none=.some r m'):c=true/\k=.some r m':=by
 cases c
 · cases h
 · exact ⟨rfl,h⟩
theorem vE {c:Bool} {k e:Cz} (h:aT c k e=.some r m'):(c=true/\k=.some r m')\/(c=false/\e=.some r m'):=by
 cases c
 · exact .inr ⟨rfl,h⟩
 · exact .inl ⟨rfl,h⟩
theorem hO {δ:Type} {o:Option δ} {k:δ->Cz} (h:bM o Cz.none k=.some r m'):∃ x,o=some x/\k x=.some r m':=by
 cases o with
 |none=>cases h
 |some x=>exact ⟨x,rfl,h⟩
theorem AQ {z:Int} {k:Nat->Cz} (h:iC k (fun _=>Cz.none) z=.some r m'):∃ w:Nat,z=(w:Int)/\k w=.some r m':=by
 cases z with
 |ofNat w=>exact ⟨w,rfl,h⟩
 |negSucc w=>cases h
theorem LM {m:Mem} {key:Key} {k:Nat->Nat->TH->Obj->Cz} (h:ajY m key k=.some r m') {hh:aC} (hm:j6 m hh):∃ a n t o,key=.g a/\m=.mk n t/\hh.get a=some o/\k a n t o=.some r m':=by
 obtain ⟨n,t⟩:=m
 cases key with
 |l a=>cases h
 |g a=>
  obtain ⟨o,hg,Cy⟩:=hO (show bM (t.get a a) Cz.none (fun o=>k a n t o)=.some r m' from h)
  exact ⟨a,n,t,o,rfl,rfl,hm.2 a o hg,Cy⟩
theorem jC {m:Mem} {key:Key} {k:Nat->Nat->TH->List V->Cz} (h:AG m key k=.some r m') {hh:aC} (hm:j6 m hh):∃ a n t c,key=.g a/\m=.mk n t/\hh.get a=some (.cs c)/\k a n t c=.some r m':=by
 obtain ⟨a,n,t,o,e1,e2,hg,PQ⟩:=LM h hm
 cases o with
 |cs c=>exact ⟨a,n,t,c,e1,e2,hg,PQ⟩
 |arr z es=>cases PQ
 |spare=>cases PQ
 |mp kd es=>cases PQ
theorem LN {m:Mem} {key:Key} {k:List (V×V)->Cz} (h:ajZ m key k=.some r m') {hh:aC} (hm:j6 m hh):∃ a es,key=.g a/\hh.get a=some (.mp none es)/\k es=.some r m':=by
 obtain ⟨a,n,t,o,e1,e2,hg,hz4⟩:=LM h hm
 cases o with
 |cs c=>cases hz4
 |arr z es=>cases hz4
 |spare=>cases hz4
 |mp kd es=>
  cases kd with
  |none=>exact ⟨a,es,e1,hg,hz4⟩
  |some kd=>cases hz4
theorem sY {o:Option V} {v:V} (h:isV o v=true):o=some v:=by
 cases o with
 |none=>cases h
 |some u=>rw [lQ u v h]
end
theorem AR {n:Nat} {t:TH} {hh:aC} (hm:j6 (.mk n t) hh) {a:Nat} {o o0:Obj} (hg:hh.get a=some o0) {k:TH->Cz} {r:Cz} (h:TH.put a o t a 1 k=r):∃ t',k t'=r/\j6 (.mk n t') (hh.set a o):=by
 obtain ⟨t',e1,e2⟩:=TH.put_eq a o t a 1
 rw [e1] at h
 exact ⟨t',h,hm.1,ajK hm.2 hg e2⟩
theorem vH (c:List V) (n:Nat) (v:V):sS c n [v]=c.set n v:=by rw [wE,DD]
section
variable {P:Program}
theorem onceC_ok {once:Nat} (ho:IC P once):EV P once ah3:=by
 intro rf hA args m v m' h hh hm K hK
 obtain ⟨p,g,rfl,hz5⟩:=r9 h
 obtain ⟨g,first,cap,rfl,hz6⟩:=Wy hz5
 obtain ⟨key,off,rfl,hz7⟩:=u9 hz6
 obtain ⟨a,n,t,c,rfl,rfl,hc,hz8⟩:=jC hz7 hm
 rcases vE hz8 with ⟨h1,hz9⟩|⟨_,hz9⟩
 · cases hz9
   have h1:=sY h1
   rw [fD] at h1
   exact ho.done a off g first cap c 1 hh K hc h1 (by decide) (hK _ hm)
 obtain ⟨h1,aqC⟩:=bY hz9
 obtain ⟨h1,h2⟩:=bN h1
 have h1:=sY h1
 have h2:=sY h2
 rw [fD] at h1 h2
 rw [eO,vH] at aqC
 obtain ⟨t1,af0,hm1⟩:=AR hm hc aqC
 cases hq:rf g (wX first cap) (.mk n t1) with
 |none=>rw [hq] at af0;cases af0
 |some v1 m1=>
  rw [hq] at af0
  have BW:=hA g _ _ _ _ hq _ hm1
  rw [qQ] at BW
  refine ho.first a off g first cap c hh K hc h1 h2 (BW _ fun h2 hm2=>?_)
  obtain ⟨a',n2,t2,c2,e1,rfl,hc2,azH⟩:=jC (key:=.g a) af0 hm2
  cases e1
  obtain ⟨h3,aqD⟩:=bY azH
  obtain ⟨h3,h4⟩:=bN h3
  have h3:=sY h3
  have h4:=sY h4
  rw [fD] at h3 h4
  rw [eO,wE,vH] at aqD
  obtain ⟨t3,azI,hm3⟩:=AR hm2 hc2 aqD
  cases azI
  exact ⟨c2,hc2,h3,h4,hK _ hm3⟩
def akQ (P:Program) (add:Nat):Prop:=∀ (args:List V) (h:aC) (r:V) (h':aC),Jc args h=some (r,h')->∀ K:V->aC->Prop,K r h'->aE P add args h K
theorem addC_ok {add:Nat} (ha:akQ P add):EV P add ao5:=by
 intro rf hA args m v m' h hh hm K hK
 obtain ⟨p,d,rfl,azJ⟩:=r9 h
 obtain ⟨key,off,rfl,azK⟩:=u9 azJ
 obtain ⟨a,n,t,c,rfl,rfl,hc,azL⟩:=jC azK hm
 obtain ⟨x,hx,azM⟩:=hO azL
 obtain ⟨kd,y,rfl,azN⟩:=vD azM
 obtain ⟨hk,azO⟩:=bY azN
 rw [g9] at hk
 have hk:=of_decide_eq_true hk
 subst hk
 obtain ⟨kd,z,rfl,azP⟩:=vD azO
 obtain ⟨hk,azQ⟩:=bY azP
 rw [g9] at hk
 have hk:=of_decide_eq_true hk
 subst hk
 obtain ⟨w,hw,aqE⟩:=AQ azQ
 rw [La,Qg] at hw
 rw [j4,eO,vH] at aqE
 obtain ⟨t',azR,hm'⟩:=AR hm hc aqE
 cases azR
 rw [fD] at hx
 refine ha _ hh (.i .i64 (w:Int)) (hh.set a (.cs (c.set off (.i .i64 (w:Int))))) ?_ K (hK _ hm')
 simp only [Jc,hc,hx,hw]
theorem Gy (x:List UInt8):∀ l,(VW x l).Perm (x::l)
 |[]=>.refl _
 |y::r=>by
  show (aT (Ow y x) (y::VW x r) (x::y::r)).Perm _
  rw [b9]
  split
  · exact ((Gy x r).cons y).trans (.swap _ _ _)
  · exact .refl _
theorem Gz {r:V} {m':Mem}:∀ (es:List (V×V)) (k:List (List UInt8)->Cz),VX es k=.some r m'->∃ ks l:List (List UInt8),es.map Prod.fst=ks.map V.s/\(∀ x∈ks,x.length<=9223372036854775807)/\l.Perm ks/\k l=.some r m'
 |[],k,h=>⟨[],[],rfl,(fun _ h=>by cases h),.refl _,h⟩
 |q::es,k,h=>by
  obtain ⟨x,hx,RQ⟩:=D1 (k:=fun x=>aT (Nat.ble (cK x) 9223372036854775807) (VX es fun l=>spell (VW x l) k) .none) h
  obtain ⟨h1,WA⟩:=bY RQ
  obtain ⟨ks,l,e1,e2,e3,af1⟩:=Gz es _ WA
  rw [eO] at af1
  rw [bT,cL] at h1
  refine ⟨x::ks,VW x l,by simp only [List.map_cons,e1,hx],fun y hy=>?_,(Gy x l).trans (e3.cons x),af1⟩
  cases hy with
  |head=>exact of_decide_eq_true h1
  |tail _ hy=>exact e2 y hy
theorem LO:∀ l:List (List UInt8),upB l=true->l.Pairwise uV
 |[],_=>.nil
 |[x],_=>List.pairwise_singleton _ _
 |x::y::r,h=>by
  obtain ⟨h1,h2⟩:=bN (show cC (Ow x y) (upB (y::r))=true from h)
  have ih:=LO (y::r) h2
  rw [yW] at h1
  refine List.pairwise_cons.2 ⟨fun z hz=>?_,ih⟩
  cases hz with
  |head=>exact h1
  |tail _ hz=>exact DX h1 ((List.pairwise_cons.1 ih).1 z hz)
theorem WB {l ks:List Ck} (hp:l.Perm ks) (hl:l.Pairwise uV):qT ks=l:=by
 rw [qT,Go.mergeSort_of_perm hp.symm]
 refine List.mergeSort_of_pairwise (hl.imp fun {a b} hab=>?_)
 have h1:uV a b:=hab
 unfold uV at h1
 rw [Go.Proofs.bytesLess_eq,decide_eq_true_eq] at h1
 simp only [Go.leB,decide_eq_true_eq]
 exact List.le_of_lt h1
theorem WC {l:List Ck} (hl:l.Pairwise uV):l.Nodup:=hl.imp fun {a b} hab e=>by
 subst e
 have h1:Op.bytesLess a a=true:=hab
 rw [LF] at h1
 cases h1
theorem LP:∀ l:List (List UInt8),VY l=l.map RM
 |[]=>rfl
 |x::r=>by show [.s x]::VY r=_;rw [LP r];rfl
structure RR (P:Program) (srt ky:Nat):Prop where
 keys:∀ (h:aC) (k mk:Nat) (c:List V) (es:List (V×V)) (ks:List (List UInt8)),h.get k=some (.cs c)->c[0]? =some (.m (.g mk))->h.get mk=some (.mp none es)->es.map Prod.fst=ks.map V.s->ks.Nodup->
  (∀ x∈ks,x.length<=9223372036854775807)->ks.length<=1000000->∀ K:V->aC->Prop,K (.sl none 1 ((qT ks).map RM)) h->aE P srt [.fn ky [] [.p (.g k) 0]] h K
 none:∀ (h:aC) (k:Nat) (c:List V),h.get k=some (.cs c)->c[0]? =some .eG->∀ K:V->aC->Prop,K .aB h->aE P srt [.fn ky [] [.p (.g k) 0]] h K
theorem sortedC_ok {srt keys:Nat} (hS:RR P srt keys):EV P srt (Qt keys):=by
 intro rf hA args m v m' h hh hm K hK
 obtain ⟨q,rfl,akR⟩:=uZ h
 obtain ⟨f,fi,ca,rfl,akS⟩:=Wy akR
 obtain ⟨h1,akT⟩:=bY akS
 obtain ⟨h1,h2⟩:=bN h1
 have h1:=jG h1
 have h2:=jG h2
 rw [bT] at h2
 have h2:=List.length_eq_zero_iff.1 h2
 subst h1 h2
 obtain ⟨p,rfl,LQ⟩:=uZ akT
 obtain ⟨key,off,rfl,Pv⟩:=u9 LQ
 obtain ⟨h1,akU⟩:=bY Pv
 have h1:=jG h1
 subst h1
 obtain ⟨a,n,t,c,rfl,rfl,hc,akV⟩:=jC akU hm
 obtain ⟨x,hx,akW⟩:=hO akV
 rw [fD] at hx
 rcases Wz akW with ⟨rfl,WD⟩|⟨key,rfl,WD⟩
 · cases WD
   exact hS.none hh a c hc hx K (hK _ hm)
 obtain ⟨mk,es,rfl,hmp,af2⟩:=LN WD hm
 obtain ⟨ks,l,e1,e2,e3,akX⟩:=Gz es _ af2
 obtain ⟨h1,af3⟩:=bY akX
 obtain ⟨h1,h2⟩:=bN h1
 have hup:=LO l h1
 rw [bT,cL] at h2
 have h2:=of_decide_eq_true h2
 rw [eO,LP] at af3
 cases af3
 refine hS.keys hh a mk c es ks hc hx hmp e1 (e3.nodup_iff.1 (WC hup)) e2 (by rw [<-e3.length_eq];exact h2) K ?_
 rw [WB e3 hup]
 exact hK _ hm
theorem QH:∀ a b:List UInt8,aT (Ow a b) (Int.negSucc 0) (aT (ID a b) (Int.ofNat 0) (Int.ofNat 1))=Pt a b
 |[],[]=>rfl
 |[],_::_=>rfl
 |_::_,[]=>rfl
 |a::r,b::q=>by
  have ih:=QH r q
  rw [yW,q8,b9,b9] at ih ⊢
  unfold Pt
  rw [show Op.bytesLess (a::r) (b::q)=(decide (a<b)||(a==b&&Op.bytesLess r q)) from rfl]
  by_cases h1:a.toNat<b.toNat
  · have e1:Nat.blt a.toNat b.toNat=true:=by simpa [Nat.blt_eq] using h1
    rw [e1,decide_eq_true (UInt8.lt_iff_toNat_lt.2 h1)]
    simp
  · have e1:Nat.blt a.toNat b.toNat=false:=by rw [Bool.eq_false_iff];exact fun hc=>h1 (by simpa [Nat.blt_eq] using hc)
    rw [e1,decide_eq_false (fun h=>h1 (UInt8.lt_iff_toNat_lt.1 h))]
    by_cases h2:b.toNat<a.toNat
    · have e2:Nat.blt b.toNat a.toNat=true:=by simpa [Nat.blt_eq] using h2
      have dX:a≠b:=fun e=>by subst e;omega
      rw [e2]
      simp [dX]
    · have e2:Nat.blt b.toNat a.toNat=false:=by rw [Bool.eq_false_iff];exact fun hc=>h2 (by simpa [Nat.blt_eq] using hc)
      have he:a=b:=UInt8.toNat_inj.1 (by omega)
      subst he
      rw [e2]
      simpa using ih
def akY (P:Program) (cmp:Nat):Prop:=∀ (a b:List UInt8) (h:aC) (K:V->aC->Prop),K (.i .i64 (Pt a b)) h->aE P cmp [.s a,.s b] h K
theorem cmpC_ok {cmp:Nat} (hC:akY P cmp):EV P cmp ao6:=by
 intro rf hA args m v m' h hh hm K hK
 obtain ⟨x,y,rfl,akZ⟩:=r9 h
 obtain ⟨a,rfl,ak0⟩:=D1 akZ
 obtain ⟨b,rfl,ak1⟩:=D1 ak0
 cases ak1
 refine hC a b hh K ?_
 rw [<-QH]
 exact hK _ hm
def LR (P:Program) (cl:Nat):Prop:=∀ (b:List Int) (h:aC) (K:V->aC->Prop),b.length*1<=140737488355328->K (.sl none 1 (b.map fun n=>[V.i .u8 n])) h->aE P cl [.sl none 1 (b.map fun n=>[V.i .u8 n])] h K
theorem cloneC_ok {cl:Nat} (hC:LR P cl) {gL:Oc} (he:EV P cl gL):EV P cl (VZ gL):=by
 intro rf hA args m v m' h hh hm K hK
 obtain ⟨x,rfl,D2⟩:=uZ h
 have ih:=fun D2=>he rf hA [x] m v m' D2 hh hm K hK
 cases x with
 |sl tk z es=>
  cases tk with
  |some tk=>exact ih D2
  |none=>
   rcases vE (show aT (cC (Nat.beq z 1) (Nat.ble (cK es) 1000000000)) (bM (Bc es) (gL.run rf [.sl none z es] m) fun _=>.some (.sl none 1 es) m) (gL.run rf [.sl none z es] m)=.some v m' from D2) with ⟨h1,E3⟩|⟨_,E3⟩
   · obtain ⟨h1,h2⟩:=bN h1
     have h1:=jG h1
     subst h1
     rw [bT,cL] at h2
     have h2:=of_decide_eq_true h2
     rw [Bi] at E3
     cases hb:bytesOf es with
     |none=>rw [hb] at E3;exact ih E3
     |some y=>
      rw [hb] at E3
      cases E3
      obtain ⟨ns,rfl,_⟩:=sK hb
      exact hC ns hh K (by simp at h2;omega) (hK _ hm)
   · exact ih E3
 |s _=>exact ih D2
 |aB=>exact ih D2
 |ms _ _ _ _=>exact ih D2
 |_=>exact ih h
end
open Go Go.ChangeMaps
def St.ins (st:St) (k:Key) (o:Obj):St:=
 match k with
 |.g n=>⟨⟨st.g.next,(n,o)::st.g.Kj⟩,st.l⟩
 |.l n=>⟨st.g,⟨st.l.next,(n,o)::st.l.Kj⟩⟩
theorem St.AK (st:St) (k k':Key) (o:Obj):(st.ins k o).get k'=if k'=k then some o else st.get k':=by
 cases k<;>cases k'<;>simp [St.ins,St.get,aC.get,aC.find,eq_comm]
structure St.RI (a b:St):Prop where
 g:a.g.next=b.g.next
 l:a.l.next=b.l.next
 get:∀ k,a.get k=b.get k
theorem St.RI.live {a b:St} (h:St.RI a b) {k:Key}:a.live k↔b.live k:=by unfold St.live;rw [h.get]
theorem bQ.same {E:Env} {a b:St} {w:World} (hs:bQ E a w) (h:St.RI b a):bQ E b w:=
 ⟨h.g.trans hs.ng,h.l.trans hs.nl,fun k hk=>hs.j8 k (h.live.1 hk),hs.jR,fun k o hk=>hs.obj k o (by rw [<-h.get];exact hk),fun k k' hk l5=>hs.sep k k' (h.live.1 hk) (h.live.1 l5),fun k hk=>hs.own k (h.live.1 hk)⟩
theorem Ext.Wn {E:Env} {st:St} {w:World} {E':Env} {a b:St} {w':World} (he:Ext E st w E' a w') (h:St.RI b a):Ext E st w E' b w':=
 ⟨he.le,he.size,he.fX,fun k hk=>he.fT k (h.live.1 hk),fun k hk=>he.gG k (h.live.1 hk),he.same,he.os,he.out,he.tape⟩
theorem St.Gv {h lo:aC} {mk:Nat} {o:Obj} (hm:h.get mk=some o):St.RI ⟨h,lo⟩ (St.ins ⟨h.remove mk,lo⟩ (.g mk) o):=by
 refine ⟨rfl,rfl,fun k=>?_⟩
 rw [St.AK]
 split
 · rename_i e;subst e;exact hm
 · rename_i e
   cases k with
   |g n=>
    show h.get n=(h.remove mk).get n
    rw [aC.gP,if_neg fun c=>e (by rw [c])]
   |l n=>rfl
def St.DT (st:St):St:=⟨st.g,⟨st.l.next+1,st.l.Kj⟩⟩
theorem St.AL (st:St) (k:Key):st.DT.get k=st.get k:=by cases k<;>rfl
theorem St.lN {st:St} {k:Key}:st.DT.live k↔st.live k:=by unfold St.live;rw [St.AL]
abbrev Env.aside (E:Env) (r:Nat):Env:=E.push false ⟨r,0,0⟩ fun _ _=>none
theorem Env.CO (E:Env) (r b o:Nat):(E.aside r).I b o=E.I b o:=by
 simp only [Env.aside,Env.push]
 cases E.I b o<;>rfl
theorem Env.AM (E:Env) (r:Nat):E.Le (E.aside r):=Env.qJ _ _ _ _
theorem Env.r6 {E:Env} {r:Nat} {k:Key} (hk:E.has k):(E.aside r).μ k=E.μ k:=(E.AM r).loc k hk
theorem bQ.aside {E:Env} {st:St} {w w':World} (h:bQ E st w) {ob:Go.Obj} (hh:w'.heap=w.heap.push ob):bQ (E.aside w.heap.size) st.DT w':=by
 have hle:=E.AM w.heap.size
 have hold:∀ b,b<w.heap.size->w'.heap[b]? =w.heap[b]? :=fun b hb=>by rw [hh,Array.getElem?_push,if_neg (by omega)]
 have dZ:∀ b o x,bF w b o=some x->b<w.heap.size:=by
  intro b o x hx
  rcases Nat.lt_or_ge b w.heap.size with hl|hl
  · exact hl
  · simp [bF,Array.getElem?_eq_none hl] at hx
 refine ⟨h.ng,?_,fun k hk=>hle.has (h.j8 k (St.lN.1 hk)),fun b o x hx=>?_,fun k o hk=>?_,fun k k' hk l5 dX=>?_,fun k hk j h1 h2=>?_⟩
 · show st.l.next+1=E.nl+1
   rw [h.nl]
 · rw [Env.CO] at hx
   have:=h.jR b o x hx
   simp only [bF,hold b (dZ _ _ _ this)] at*
   exact this
 · rw [St.AL] at hk
   have hl:st.live k:=⟨o,hk⟩
   have:=h.obj k o hk
   rw [Env.r6 (h.j8 k hl)]
   exact Holds.rK (Env.jS hle k) (hold _ (h.lt hl)) this
 · have h1:=St.lN.1 hk
   have h2:=St.lN.1 l5
   rw [Env.r6 (h.j8 k h1),Env.r6 (h.j8 k' h2)]
   exact h.sep k k' h1 h2 dX
 · have hl:=St.lN.1 hk
   rw [Env.r6 (h.j8 k hl)] at h1 h2 ⊢
   rw [Env.CO]
   exact h.own k hl j h1 h2
theorem Ext.aside {E0:Env} {st0:St} {w0:World} {E:Env} {st:St} {w w':World} (he:Ext E0 st0 w0 E st w) (hs:bQ E st w) {ob:Go.Obj} (hh:w'.heap=w.heap.push ob) (h1:w'.os=w.os) (h2:w'.output=w.output) (h3:w'.tape=w.tape):
 Ext E0 st0 w0 (E.aside w.heap.size) st.DT w':=by
 refine he.trans ⟨E.AM _,by rw [hh];simp,fun b o x hx=>.inl (by rwa [Env.CO] at hx),fun k hk _=>St.lN.1 hk,fun k hk hn=>absurd (hs.j8 k (St.lN.1 hk)) hn,fun b hb _=>?_,h1,h2,h3⟩
 rw [hh,Array.getElem?_push,if_neg (by omega)]
theorem bQ.less {E:Env} {st:St} {w:World} (h:bQ E st w) (k:Key):bQ E (st.remove k) w:=by
 have hg:∀ k' o,(st.remove k).get k'=some o->st.get k'=some o:=by
  intro k' o ho
  rw [St.gP] at ho
  split at ho
  · cases ho
  · exact ho
 have hl:∀ k',(st.remove k).live k'->st.live k':=fun k' ⟨o,ho⟩=>⟨o,hg k' o ho⟩
 refine ⟨?_,?_,fun k' hk=>h.j8 k' (hl k' hk),h.jR,fun k' o hk=>h.obj k' o (hg k' o hk),fun k1 k2 h1 h2=>h.sep k1 k2 (hl _ h1) (hl _ h2),fun k' hk=>h.own k' (hl _ hk)⟩
 · rw [<-h.ng];cases k<;>rfl
 · rw [<-h.nl];cases k<;>rfl
theorem bQ.aeU {E:Env} {st:St} {w w':World} (h:bQ E st w) {r:Nat} (hb:∀ b,b≠r->w'.heap[b]? =w.heap[b]?) (hk:∀ k,st.live k->(E.μ k).bI≠r) (hi:∀ j,E.I r j=none):bQ E st w':=by
 refine ⟨h.ng,h.nl,h.j8,fun b o x hx=>?_,fun k o ho=>Holds.rK (.refl _) (hb _ (hk k ⟨o,ho⟩)) (h.obj k o ho),h.sep,h.own⟩
 by_cases hbr:b=r
 · subst hbr;rw [hi] at hx;cases hx
 · have:=h.jR b o x hx
   simp only [bF,hb b hbr] at*
   exact this
structure RJ (mk wO:Key) (kd:Option IntKind) (es:List (V×V)) (aY:Array MapEntry) (clock r:Nat) (E:Env) (st:St) (w:World) (seen:Array Nat):Prop where
 hm:E.has mk
 hi:E.has wO
 ei:E.μ wO=⟨r,0,0⟩
 bm:w.heap[(E.μ mk).bI]? =some (.map aY clock)
 it:w.heap[r]? =some (.mapIter (some (E.μ mk).bI) clock seen clock)
 bo:B0 aY clock
 sz:aY.size=es.length
 rel:∀ (j:Nat) (q:V×V) (e:MapEntry),es[j]? =some q->aY[j]? =some e->eH E.I q.1 e.key/\q.1.dA kd=true/\Rel (E.at mk) q.2 e.val
 apart:∀ k,st.live k->(E.μ k).bI≠(E.μ mk).bI/\(E.μ k).bI≠r
 own:∀ j,(E.μ mk).base<=j->j<(E.μ mk).fin->E.I (E.μ mk).bI j=none
theorem RJ.step {mk wO:Key} {kd:Option IntKind} {es:List (V×V)} {aY:Array MapEntry} {clock r:Nat} {E:Env} {st:St} {w:World} {seen:Array Nat} (h:RJ mk wO kd es aY clock r E st w seen)
 {E':Env} {bA:St} {w':World} (he:Ext E st w E' bA w'):RJ mk wO kd es aY clock r E' bA w' seen:=by
 have e1:=he.le.loc mk h.hm
 have l1:(E.μ mk).bI<w.heap.size:=(Array.getElem?_eq_some_iff.1 h.bm).1
 have l2:r<w.heap.size:=(Array.getElem?_eq_some_iff.1 h.it).1
 refine ⟨he.le.has h.hm,he.le.has h.hi,(he.le.loc wO h.hi).trans h.ei,?_,?_,h.bo,h.sz,fun j q e h1 h2=>?_,fun k hk=>?_,fun j h1 h2=>?_⟩
 · rw [e1,he.same _ l1 fun k hk=>(h.apart k hk).1];exact h.bm
 · rw [e1,he.same _ l2 fun k hk=>(h.apart k hk).2];exact h.it
 · obtain ⟨a,b,c⟩:=h.rel j q e h1 h2
   exact ⟨a.mono he.le.jR,b,c.mono (Env.jS he.le mk)⟩
 · rw [e1]
   by_cases hh:E.has k
   · rw [he.le.loc k hh];exact h.apart k (he.fT k hk hh)
   · rcases he.gG k hk hh with h1|⟨k0,h1,h2⟩
     · exact ⟨by omega,by omega⟩
     · rw [<-h2];exact h.apart k0 h1
 · rw [e1] at h1 h2 ⊢
   cases hx:E'.I (E.μ mk).bI j with
   |none=>rfl
   |some x=>
    rcases he.fX _ _ _ hx with h3|h3|⟨k,h3,h4⟩
    · rw [h.own j h1 h2] at h3;cases h3
    · omega
    · exact absurd h4 (h.apart k h3).1
theorem RJ.back {mk wO:Key} {kd:Option IntKind} {es:List (V×V)} {aY:Array MapEntry} {clock r:Nat} {E:Env} {st:St} {w:World} {seen:Array Nat} (h:RJ mk wO kd es aY clock r E st w seen) (hs:bQ E st w):bQ E (st.ins mk (.mp kd es)) w:=by
 have hl:∀ k,(st.ins mk (.mp kd es)).live k->k=mk\/k≠mk/\st.live k:=by
  rintro k ⟨o,ho⟩
  rw [St.AK] at ho
  split at ho
  · exact .inl ‹_›
  · exact .inr ⟨‹_›,o,ho⟩
 refine ⟨?_,?_,fun k hk=>?_,hs.jR,fun k o ho=>?_,fun k k' hk l5 dX=>?_,fun k hk j h1 h2=>?_⟩
 · rw [<-hs.ng];cases mk<;>rfl
 · rw [<-hs.nl];cases mk<;>rfl
 · rcases hl k hk with rfl|⟨_,h1⟩
   · exact h.hm
   · exact hs.j8 k h1
 · rw [St.AK] at ho
   split at ho
   · rename_i hk
     cases ho
     subst hk
     exact ⟨aY,clock,h.bm,h.sz,fun j q e h1 h2=>by
      obtain ⟨a,b,c⟩:=h.rel j q e h1 h2
      exact ⟨by cases k<;>exact a,b,c⟩,h.bo⟩
   · exact hs.obj k o ho
 · rcases hl k hk with rfl|⟨_,h1⟩<;>rcases hl k' l5 with rfl|⟨_,h2⟩
   · exact absurd rfl dX
   · exact Ne.symm (h.apart k' h2).1
   · exact (h.apart k h1).1
   · exact hs.sep k k' h1 h2 dX
 · rcases hl k hk with rfl|⟨_,h3⟩
   · exact h.own j h1 h2
   · exact hs.own k h3 j h1 h2
theorem Ext.ins {E:Env} {st:St} {w:World} {E':Env} {bA:St} {w':World} (he:Ext E st w E' bA w') {mk:Key} (o:Obj) (hm:E.has mk):Ext E (st.ins mk o) w E' (bA.ins mk o) w':=by
 have hl:∀ (a:St) k,(a.ins mk o).live k↔k=mk\/a.live k:=by
  intro a k
  unfold St.live
  rw [St.AK]
  split
  · rename_i h;simp [h]
  · rename_i h;simp [h]
 refine ⟨he.le,he.size,fun b j x hx=>?_,fun k hk hh=>?_,fun k hk hh=>?_,fun b hb hn=>he.same b hb fun k hk=>hn k ((hl st k).2 (.inr hk)),he.os,he.out,he.tape⟩
 · rcases he.fX b j x hx with h1|h1|⟨k,h1,h2⟩
   · exact .inl h1
   · exact .inr (.inl h1)
   · exact .inr (.inr ⟨k,(hl st k).2 (.inr h1),h2⟩)
 · rcases (hl bA k).1 hk with rfl|h1
   · exact (hl st k).2 (.inl rfl)
   · exact (hl st k).2 (.inr (he.fT k h1 hh))
 · rcases (hl bA k).1 hk with rfl|h1
   · exact absurd hm hh
   · rcases he.gG k h1 hh with h2|⟨k0,h2,h3⟩
     · exact .inl h2
     · exact .inr ⟨k0,(hl st k0).2 (.inr h2),h3⟩
def r7 (es:List (V×V)) (aY:Array MapEntry) (seen:Array Nat):List (V×V):=((es.zip aY.toList).filter fun p=>!seen.contains p.2.born).map Prod.fst
theorem RK {es:List (V×V)} {aY:Array MapEntry} {seen:Array Nat} (h:(leftOf aY seen).size=0):r7 es aY seen=[]:=by
 have h0:leftOf aY seen=#[]:=Array.eq_empty_of_size_eq_zero h
 unfold leftOf at h0
 unfold r7
 rw [List.map_eq_nil_iff,List.filter_eq_nil_iff]
 intro p hp
 have hm:p.2∈aY:=by simpa using (List.of_mem_zip hp).2
 have:=(Array.filter_eq_empty_iff.1 h0) p.2 hm
 simpa using this
theorem RL {es:List (V×V)} {aY:Array MapEntry} (h:aY.size=es.length):r7 es aY #[]=es:=by
 unfold r7
 rw [List.filter_eq_self.2 (fun p _=>by simp),List.map_fst_zip]
 simp [h]
theorem contains_push (seen:Array Nat) (b c:Nat):(seen.push b).contains c=(seen.contains c||decide (c=b)):=by
 rw [Bool.eq_iff_iff]
 simp
theorem DU {b:Nat}:∀ {Z:List ((V×V)×MapEntry)} (seen:Array Nat) {j:Nat} {p:(V×V)×MapEntry},(Z.map fun q=>q.2.born).Nodup->Z[j]? =some p->p.2.born=b->seen.contains b=false->
 ∃ A B,Z.filter (fun q=>!seen.contains q.2.born)=A++p::B/\Z.filter (fun q=>!(seen.push b).contains q.2.born)=A++B
 |[],_,_,_,_,h,_,_=>by simp at h
 |q::Z,seen,0,p,hn,h,hb,hs=>by
  simp only [List.getElem?_cons_zero,Option.some.injEq] at h
  subst h
  rw [List.map_cons,List.nodup_cons] at hn
  refine ⟨[],Z.filter fun q=>!seen.contains q.2.born,?_,?_⟩
  · rw [List.filter_cons_of_pos (by rw [hb,hs];rfl)];rfl
  · rw [List.filter_cons_of_neg (by rw [contains_push,hb,decide_eq_true rfl];simp)]
    refine List.filter_congr fun x hx=>?_
    have:x.2.born≠b:=fun e=>hn.1 (List.mem_map.2 ⟨x,hx,e.trans hb.symm⟩)
    rw [contains_push,decide_eq_false this,Bool.or_false]
 |q::Z,seen,j+1,p,hn,h,hb,hs=>by
  rw [List.map_cons,List.nodup_cons] at hn
  rw [List.getElem?_cons_succ] at h
  obtain ⟨A,B,h1,h2⟩:=DU seen hn.2 h hb hs
  have:q.2.born≠b:=fun e=>hn.1 (List.mem_map.2 ⟨p,List.mem_of_getElem? h,hb.trans e.symm⟩)
  rw [List.filter_cons,List.filter_cons,contains_push,decide_eq_false this,Bool.or_false,h1,h2]
  cases seen.contains q.2.born
  · exact ⟨q::A,B,rfl,rfl⟩
  · exact ⟨A,B,rfl,rfl⟩
theorem Pr {es:List (V×V)} {aY:Array MapEntry} {clock:Nat} {seen:Array Nat} (hb:B0 aY clock) (hz:aY.size=es.length) {e:MapEntry} (he:e∈(leftOf aY seen).toList):
 ∃ (L1:List (V×V)) (q:V×V) (L2:List (V×V)) (j:Nat),r7 es aY seen=L1++q::L2/\r7 es aY (seen.push e.born)=L1++L2/\es[j]? =some q/\aY[j]? =some e:=by
 unfold leftOf at he
 have he:e∈aY.filter fun e=>!seen.contains e.born:=Array.mem_def.2 he
 rw [Array.mem_filter] at he
 obtain ⟨h1,h2⟩:=he
 obtain ⟨j,hj,hje⟩:=Array.getElem_of_mem h1
 have hj2:j<es.length:=by omega
 have hzj:(es.zip aY.toList)[j]? =some (es[j],e):=by
  rw [List.getElem?_zip_eq_some]
  exact ⟨List.getElem?_eq_getElem hj2,by simp [hj,hje]⟩
 have ayQ:((es.zip aY.toList).map fun q=>q.2.born)=aY.toList.map (·.born):=by
  rw [show (fun q:(V×V)×MapEntry=>q.2.born)=(fun e:MapEntry=>e.born) ∘ Prod.snd from rfl,<-List.map_map,List.map_snd_zip (by simp [hz])]
 obtain ⟨A,B,h3,h4⟩:=DU seen (b:=e.born) (by rw [ayQ];exact hb.2) hzj rfl (by simpa using h2)
 refine ⟨A.map Prod.fst,es[j],B.map Prod.fst,j,?_,?_,List.getElem?_eq_getElem hj2,by simp [hj,hje]⟩
 · unfold r7;rw [h3];simp
 · unfold r7;rw [h4];simp
structure BS where
 pre:List cG
 m:bH
 it:Nat
 nx:Nat
 tx:Nat
 en:Nat
 b0:Nat
 b1:Nat
 post:List cG
 body:AC
 deriving Inhabited
def LB (mk:Key) (o:Obj) (Q:Ex->Fr->St->Prop) (e:Ex) (fr:Fr) (st:St):Prop:=∃ PZ,St.RI PZ (st.ins mk o)/\Q e fr PZ
def akE (b0 b1:Nat) (R:Fr->St->Prop) (mk:Key) (o:Obj) (Q:Ex->Fr->St->Prop):Ex->Fr->St->Prop
 |.normal,fr,st=>R fr st
 |.exit id,fr,st=>if id=b1 then R fr st else if id=b0 then LB mk o Q .normal fr st else LB mk o Q (.exit id) fr st
 |.ret,fr,st=>LB mk o Q .ret fr st
def akF (A:bK) (n:BS) (mk wO:Key) (o:Obj) (Q:Ex->Fr->St->Prop) (R:List (V×V)->Fr->St->Prop) (left:List (V×V)) (fr:Fr) (st:St):Prop:=
 fr.get n.it=.p wO 0/\(left=[]->fr.cut [n.nx,n.tx] fun fr=>LB mk o Q .normal fr st)/\
 ∀ L1 x L2,left=L1++x::L2->fr.cut [n.nx,n.tx,n.en] fun fr=>spV A (.seq (.EF n.post) n.body) (akE n.b0 n.b1 (R (L1++L2)) mk o Q) ((n.en,.bC [x.1,x.2])::fr) st
structure afT (A:bK) (n:BS) (mk wO:Key) (o:Obj) (Q:Ex->Fr->St->Prop) (es:List (V×V)) (fr:Fr) (st:St):Prop where
 h:∀ R:List (V×V)->Fr->St->Prop,(∀ left fr bV st,Fr.le bV fr->akF A n mk wO o Q R left bV st->R left fr st)->R es fr st
def spN (A:bK) (n:BS) (Q:Ex->Fr->St->Prop) (fr:Fr) (st:St):Prop:=
 (mV n.pre fr st).sv A fun x=>match x with
   |(fr,st)=>match n.m.ev fr with
    |.m mk=>yA (st.get mk) fun o=>match o with
     |.mp kd es=>afT A n mk (.l st.l.next) (.mp kd es) Q es ((n.it,.p (.l st.l.next) 0)::fr) (st.remove mk).DT
     |_=>False
    |_=>False
inductive RC where
 |ac (c:AC)
 |seq (a b:RC)
 |rng (n:BS)
 deriving Inhabited
def spR (A:bK):RC->(Ex->Fr->St->Prop)->Fr->St->Prop
 |.ac c,Q,fr,st=>spV A c Q fr st
 |.seq a b,Q,fr,st=>spR A a (rW (spR A b Q) Q) fr st
 |.rng n,Q,fr,st=>spN A n Q fr st
theorem afT.by {A:bK} {n:BS} {mk wO:Key} {o:Obj} {Q:Ex->Fr->St->Prop} {es:List (V×V)} {fr:Fr} {st:St} (I:List (V×V)->Fr->St->Prop) (h0:I es fr st)
 (hs:∀ left fr st,I left fr st->∃ bV,Fr.le bV fr/\∀ R:List (V×V)->Fr->St->Prop,(∀ l fr st,l.length<left.length->I l fr st->R l fr st)->akF A n mk wO o Q R left bV st):afT A n mk wO o Q es fr st:=by
 refine ⟨fun R hR=>?_⟩
 have key:∀ (k:Nat) left fr st,left.length=k->I left fr st->R left fr st:=by
  intro k
  induction k using Nat.strongRecOn with
  |_ k ih=>
   intro left fr st hk hi
   obtain ⟨bV,hle,hx⟩:=hs left fr st hi
   exact hR left fr bV st hle (hx R fun l fr st hm hi=>ih l.length (by omega) l fr st rfl hi)
 exact key es.length es fr st rfl h0
def DV (P:Program) (N:Nat) (ops:Array Oper):List Oper->List cG->bH->Nat->Bool
 |[o],[],m,it=>decide (o.guard=none)&&decide (o.dst=some it)&&decide (it<N)&&(match o.op with
  |.range t x=>cZ x m&&(match P.underlying t with
   |some (.map _ _)=>true
   |_=>false)
  |_=>false)
 |o::l,A::aEo,m,it=>EM P o.op A.op&&decide (A.dst=o.dst)&&KN N o.dst&&j0 ops o.guard A.guard&&DV P N ops l aEo m it
 |_,_,_,_=>false
theorem BT {P:Program} {N:Nat} {ops:Array Oper} {m:bH} {it:Nat}:∀ {l:List Oper} {aEo:List cG},DV P N ops l aEo m it=true->
 ∃ l' o t x k e,l=l'++[o]/\xZ P N ops l' aEo=true/\o.guard=none/\o.dst=some it/\it<N/\o.op=.range t x/\cZ x m=true/\P.underlying t=some (.map k e)
 |[],_,h=>by simp [DV] at h
 |[o],[],h=>by
  simp only [DV,Bool.and_eq_true,decide_eq_true_eq] at h
  obtain ⟨⟨⟨h1,h2⟩,h3⟩,h4⟩:=h
  split at h4
  · rename_i t x ho
    simp only [Bool.and_eq_true] at h4
    obtain ⟨h5,h6⟩:=h4
    split at h6
    · rename_i k e hu
      exact ⟨[],o,t,x,k,e,rfl,rfl,h1,h2,h3,ho,h5,hu⟩
    · cases h6
  · cases h4
 |o::o'::l,[],h=>by simp [DV] at h
 |o::l,A::aEo,h=>by
  simp only [DV,Bool.and_eq_true] at h
  obtain ⟨h1,h2⟩:=h
  obtain ⟨l',o',t,x,k,e,rfl,h3,h4⟩:=BT h2
  exact ⟨o::l',o',t,x,k,e,rfl,by simp only [xZ,h3,Bool.and_true,Bool.and_eq_true];exact h1,h4⟩
def Ps (N:Nat) (ops:Array Oper) (it nx tx:Nat):Bool:=
 match ops.toList with
 |[o,o']=>decide (o.guard=none)&&decide (o'.guard=none)&&decide (o.dst=some nx)&&decide (o'.dst=some tx)&&decide (nx<N)&&decide (tx<N)&&decide (nx≠it)&&decide (tx≠it)&&(match o.op with
  |.next x false=>cZ x (.t it)
  |_=>false)&&(match o'.op with
  |.extract x 0=>cZ x (.t nx)
  |_=>false)
 |_=>false
def Wo (P:Program) (N:Nat) (ops:Array Oper) (it en:Nat) (post:List cG):Bool:=
 match ops.toList with
 |o::l=>decide (o.guard=none)&&decide (o.dst=some en)&&decide (en<N)&&(match o.op with
  |.entry x=>cZ x (.t it)
  |_=>false)&&xZ P N ops l post
 |_=>false
def Wp (P:Program) (N:Nat) (c:Code) (n:BS):Bool:=
 match c with
 |.seq (.region _ o1 d1) (.block i0 (.loop (.seq (.region _ o2 d2) (.seq (.cond cx sk (.exit i0')) (.block i1 (.seq (.region _ o3 d3) body))))))=>
  !d1&&!d2&&!d3&&decide (i0=n.b0)&&decide (i0'=n.b0)&&decide (i1=n.b1)&&DV P N o1 o1.toList n.pre n.m n.it&&Ps N o2 n.it n.nx n.tx&&cZ cx (.t n.tx)&&wW P N sk .skip&&
   Wo P N o3 n.it n.en n.post&&wW P N body n.body
 |_=>false
def okR (P:Program) (N:Nat):Code->RC->Bool
 |c,.ac A=>wW P N c A
 |.seq a b,.seq A B=>okR P N a A&&okR P N b B
 |c,.rng n=>Wp P N c n
 |_,_=>false
structure RFn where
 nparams:Nat
 body:RC
 results:List RV
 deriving Inhabited
def QD (P:Program) (f:Nat) (F:RFn):Bool:=
 match P.funcs[f]? with
 |some fn=>match fn.body with
  |some c=>lF P f&&okR P fn.ntmps c F.body&&qP P fn.results.toList F.results&&decide (F.nparams<=fn.ntmps)
  |none=>false
 |none=>false
section
variable {P:Program} {N:Nat} {ops:Array Oper}
theorem LC {Q:Exit->Act->World->Prop} {i:Nat} {rest:List Nat} {a:Act} {w:World} {o:Oper} (ho:ops[i]? =some o) (hg:o.guard=none) (h:o.wp P a w (wpOps P ops Q rest) Q):wpOps P ops Q (i::rest) a w:=by
 simp only [wpOps,ho]
 rw [if_pos (by simp [Region.wanted,hg])]
 exact .inl h
theorem r8 {o:Oper} {a:Act} {w w':World} {v:Value} {next:Act->World->Prop} {Q:Exit->Act->World->Prop} (h:(execOp a.eval o).run P w=.ok (.value v) w') (hn:next (a.put o.dst v) w'):o.wp P a w next Q:=by
 unfold Oper.wp
 rw [h]
 exact hn
theorem aS.skip {E:Env} {fr:Fr} {a:Act} (hf:aS E N fr a) {d:Nat} {x:Value} (hj:fr.get d=.bL):aS E N fr (a.put (some d) x):=by
 refine ⟨by simp [Act.put,hf.size],fun t=>?_⟩
 by_cases ht:d=t
 · subst ht;rw [hj];exact .bL _
 · have:(a.put (some d) x).tmps.getD t undef=a.tmps.getD t undef:=by
    simp only [Act.put,Array.getD_eq_getD_getElem?]
    rw [Array.getElem?_setIfInBounds_ne ht]
   rw [this]
   exact hf.rel t
theorem aS.jZ {E:Env} {fr:Fr} {a:Act} (hf:aS E N fr a) (ks:List Nat):aS E N (fr.jZ ks) a:=by
 refine ⟨hf.size,fun t=>?_⟩
 rw [Fr.eC]
 split
 · exact .bL _
 · exact hf.rel t
theorem Ja {o:Oper} {a:Act} {w:World} {t k e:TypeId} {x:Operand} {bm:Nat} {es:Array MapEntry} {clock:Nat} (ho:o.op=.range t x) (ht:P.underlying t=some (.map k e)) (hx:a.eval x=.map (some bm)) (hb:w.heap[bm]? =some (.map es clock)):
 (execOp a.eval o).run P w=.ok (.value (.pointer (some ⟨w.heap.size,0,none⟩))) (w.alloc (.mapIter (some bm) clock #[] clock)):=by
 simp [execOp,ho,hx,run_range_map w t k e bm es clock ht hb,Result.andThen]
theorem BU {o:Oper} {a:Act} {w w':World} {x:Operand} {it v:Value} (ho:o.op=.next x false) (hx:a.eval x=it) (hr:(Instr.next it false o.type).run P w=.ok v w'):(execOp a.eval o).run P w=.ok (.value v) w':=by
 simp [execOp,ho,hx,hr,Result.andThen]
theorem Jb {o:Oper} {a:Act} {w w':World} {x:Operand} {it v:Value} (ho:o.op=.entry x) (hx:a.eval x=it) (hr:(Instr.entry it).run P w=.ok v w'):(execOp a.eval o).run P w=.ok (.value v) w':=by
 simp [execOp,ho,hx,hr,Result.andThen]
theorem BV {o:Oper} {a:Act} {w:World} {x:Operand} {vs:Array Value} {v:Value} (ho:o.op=.extract x 0) (hx:a.eval x=.tuple vs) (hv:vs[0]? =some v):(execOp a.eval o).run P w=.ok (.value v) w:=by
 simp [execOp,ho,hx,Instr.extract,hv]
theorem QE {x:Operand} {n:Nat} (h:cZ x (.t n)=true):x=.tmp n:=by
 cases x<;>simp [cZ] at h
 exact congrArg _ h
variable {E0:Env} {st0:St} {w0:World}
def Wq (P:Program) (N:Nat) (E0:Env) (st0:St) (w0:World) (c:Code) (Q:Ex->Fr->St->Prop):Exit->Act->World->Prop
 |.normal,a,w=>gI P c (p7 N E0 st0 w0 Q) a w
 |e,a,w=>p7 N E0 st0 w0 Q e a w
theorem gI.next {c:Code} {Q:Ex->Fr->St->Prop} {a:Act} {w:World} (h:c.wp P (Wq P N E0 st0 w0 c Q) a w):gI P c (p7 N E0 st0 w0 Q) a w:=by
 intro b k cs
 obtain ⟨e,a₁,w₁,hq,IB⟩:=h b (.inLoop c::k) cs
 cases e with
 |normal=>
  obtain ⟨e₂,a₂,w₂,hq₂,Vw⟩:=hq b k cs
  exact ⟨e₂,a₂,w₂,hq₂,.of_steps (Steps.trans IB (.one step_inLoop)) Vw⟩
 |exit id=>exact ⟨.exit id,a₁,w₁,hq,.pass (x:=.inLoop c) rfl (fun _ _=>.inl (by simp)) IB⟩
 |ret=>exact ⟨.ret,a₁,w₁,hq,.pass (x:=.inLoop c) rfl (fun _ _=>.inl (by simp)) IB⟩
 |goto l=>exact hq.elim
 |panic ch=>exact hq.elim
 |outgrown=>exact hq.elim
theorem round_ok {n:BS} {o2 o3:Array Oper} {cx:Operand} {sk body:Code} {id2 id3:Nat} {c:Code} (k2:Ps N o2 n.it n.nx n.tx=true) (k3:cZ cx (.t n.tx)=true) (k4:wW P N sk .skip=true) (k5:Wo P N o3 n.it n.en n.post=true) (k6:wW P N body n.body=true)
 (Q:Ex->Fr->St->Prop) {mk wO:Key} {kd:Option IntKind} {es:List (V×V)} {aY:Array MapEntry} {clock r:Nat} (hr0:w0.heap.size<=r) {o:Obj} (ho:o=.mp kd es)
 {left:List (V×V)} {fr:Fr} {st:St} {E:Env} {w:World} {a:Act} {seen:Array Nat} (QF:left=r7 es aY seen) (ht:RJ mk wO kd es aY clock r E st w seen) (hs:bQ E st w) (he:Ext E0 st0 w0 E (st.ins mk o) w) (hf:aS E N fr a) (hd:a.defers=[])
 (hx:akF (aE P) n mk wO o Q (fun left fr st=>∀ (E:Env) (w:World) (a:Act) (seen:Array Nat),left=r7 es aY seen->RJ mk wO kd es aY clock r E st w seen->bQ E st w->Ext E0 st0 w0 E (st.ins mk o) w->aS E N fr a->a.defers=[]->gI P c (p7 N E0 st0 w0 (jD n.b0 Q)) a w) left fr st):
 (Code.seq (.region id2 o2 false) (.seq (.cond cx sk (.exit n.b0)) (.block n.b1 (.seq (.region id3 o3 false) body)))).wp P (Wq P N E0 st0 w0 c (jD n.b0 Q)) a w:=by
 obtain ⟨hit,KE,apJ⟩:=hx
 have hbm:=ht.bm
 have afU:=ht.it
 have apK:(E.μ mk).bI≠r:=fun e=>by rw [e,afU] at hbm;cases hbm
 have leave:∀ (e:Ex) (E':Env) (bV:Fr) (bA:St) (w':World) (a':Act) (aiB:Array Nat),RJ mk wO kd es aY clock r E' bA w' aiB->bQ E' bA w'->Ext E0 st0 w0 E' (bA.ins mk o) w'->aS E' N bV a'->a'.defers=[]->LB mk o Q e bV bA->
  IA N E0 st0 w0 (Q e) a' w':=by
  rintro e E' bV bA w' a' aiB t1 s1 x1 f1 d1 ⟨PZ,qK,hq⟩
  exact ⟨bV,PZ,E',hq,(by rw [ho] at qK;exact (t1.back s1).same qK),x1.Wn qK,f1,d1⟩
 unfold Ps at k2
 split at k2
 case h_2=>cases k2
 rename_i oN oX hol
 simp only [Bool.and_eq_true,decide_eq_true_eq] at k2
 obtain ⟨⟨⟨⟨⟨⟨⟨⟨⟨g1,g2⟩,d1⟩,d2⟩,n1⟩,n2⟩,ne1⟩,ne2⟩,p1⟩,p2⟩:=k2
 split at p1
 case h_2=>cases p1
 rename_i xN hoN
 split at p2
 case h_2=>cases p2
 rename_i xX hoX
 have e1:=QE p1
 have e2:=QE p2
 have e3:=QE k3
 subst e1 e2 e3
 have jN:o2.size=2:=by rw [<-Array.length_toList,hol];rfl
 have hg0:o2[0]? =some oN:=by rw [<-Array.getElem?_toList,hol];rfl
 have hg1:o2[1]? =some oX:=by rw [<-Array.getElem?_toList,hol];rfl
 have hia:a.eval (.tmp n.it)=.pointer (some ⟨r,0,none⟩):=by
  have h:=hf.rel n.it
  rw [hit] at h
  show a.tmps.getD n.it undef=_
  generalize a.tmps.getD n.it undef=y at h
  cases h with
  |deep hd=>cases hd
  |p _ _ hk=>rw [ht.ei]
 refine wp_seq (wp_region ?_)
 rw [jN]
 show wpOps P o2 _ [0,1] a w
 refine LC hg0 g1 ?_
 -- OM Og two akH leave in Og frame
 have fr2:∀ (x y:Value) (ks:List Nat),bZ n.nx ks=true->bZ n.tx ks=true->aS E N (fr.jZ ks) ((a.put (some n.nx) x).put (some n.tx) y):=fun x y ks h1 h2=>
  ((hf.jZ ks).skip (by rw [Fr.eC,h1];rfl)).skip (by rw [Fr.eC,h2];rfl)
 have hev:∀ (x y:Value),((a.put (some n.nx) x).put (some n.tx) y).eval (.tmp n.tx)=y:=fun x y=>by
  show (((a.put (some n.nx) x).put (some n.tx) y).tmps.getD n.tx undef)=y
  have:n.tx<(a.put (some n.nx) x).tmps.size:=by simp [Act.put,hf.size,n2]
  simp only [Act.put,Array.getD_eq_getD_getElem?] at this ⊢
  rw [Array.getElem?_setIfInBounds_self_of_lt this]
  rfl
 have apL:∀ (x:Value),(a.put (some n.nx) x).eval (.tmp n.nx)=x:=fun x=>by
  show ((a.put (some n.nx) x).tmps.getD n.nx undef)=x
  have:n.nx<a.tmps.size:=by rw [hf.size];exact n1
  simp only [Act.put,Array.getD_eq_getD_getElem?]
  rw [Array.getElem?_setIfInBounds_self_of_lt this]
  rfl
 rcases run_next_at (P:=P) w oN.type r (E.μ mk).bI clock clock seen aY clock afU hbm ht.bo.1 (Nat.le_refl _) with ⟨h0,dO⟩|⟨e,Ij,w1,hw1,dO⟩
 · refine r8 (BU hoN hia dO) ?_
   rw [d1]
   refine LC hg1 g2 (r8 (v:=.bool false) (BV hoX (apL _) rfl) ?_)
   rw [d2]
   show Code.wp P _ _ _ _
   refine wp_seq (wp_cond_false (hev _ _) (wp_exit ?_))
   have hn:=KE (by rw [QF];exact RK h0)
   rw [Fr.b8] at hn
   have:=leave .normal E _ st w _ seen ht hs he (fr2 (.tuple #[.bool false]) (.bool false) [n.nx,n.tx] (bU.2 (by simp)) (bU.2 (by simp))) (by rw [put_defers,put_defers];exact hd) hn
   show IA N E0 st0 w0 (jD n.b0 Q (.exit n.b0)) _ w
   have eb:jD n.b0 Q (.exit n.b0)=Q .normal:=by funext fr st;simp [jD]
   rw [eb]
   exact this
 · obtain ⟨L1,x,L2,j,hl1,Ky,hej,aiC⟩:=Pr (es:=es) ht.bo ht.sz Ij
   obtain ⟨wn,hwn⟩:∃ wn,wn=setBlock w1 r (.mapIter (some (E.μ mk).bI) clock (seen.push e.born) clock):=⟨_,rfl⟩
   rw [<-hwn] at dO
   have UM:w1.heap=w.heap/\w1.os=w.os/\w1.output=w.output/\w1.tape=w.tape:=by rcases hw1 with rfl|rfl<;>exact ⟨rfl,rfl,rfl,rfl⟩
   have ayX:r<w.heap.size:=(Array.getElem?_eq_some_iff.1 afU).1
   have B1:∀ b,b≠r->wn.heap[b]? =w.heap[b]? :=fun b hb=>by
    rw [hwn]
    show (w1.heap.setIfInBounds r _)[b]? =_
    rw [Array.getElem?_setIfInBounds_ne (Ne.symm hb),UM.1]
   have hat:wn.heap[r]? =some (.mapIter (some (E.μ mk).bI) clock (seen.push e.born) clock):=by
    rw [hwn]
    show (w1.heap.setIfInBounds r _)[r]? =_
    rw [Array.getElem?_setIfInBounds_self_of_lt (by rw [UM.1];exact ayX)]
   have hIr:∀ j,E.I r j=none:=fun j=>by
    cases hx:E.I r j with
    |none=>rfl
    |some y=>
     have:=hs.jR r j y hx
     simp [bF,afU] at this
   have hsn:bQ E st wn:=hs.aeU B1 (fun k hk=>(ht.apart k hk).2) hIr
   have htn:RJ mk wO kd es aY clock r E st wn (seen.push e.born):=⟨ht.hm,ht.hi,ht.ei,by rw [B1 _ apK];exact hbm,hat,ht.bo,ht.sz,ht.rel,ht.apart,ht.own⟩
   have s0:wn.heap.size=w.heap.size:=by
    rw [hwn]
    show (w1.heap.setIfInBounds r _).size=_
    rw [Array.size_setIfInBounds,UM.1]
   have mQ:Ext E0 st0 w0 E (st.ins mk o) wn:=⟨he.le,by rw [s0];exact he.size,he.fX,he.fT,he.gG,fun b hb hk=>by rw [B1 b (by omega)];exact he.same b hb hk,
    by rw [hwn];exact UM.2.1.trans he.os,by rw [hwn];exact UM.2.2.1.trans he.out,by rw [hwn];exact UM.2.2.2.trans he.tape⟩
   refine r8 (BU hoN hia dO) ?_
   rw [d1]
   refine LC hg1 g2 (r8 (v:=.bool true) (BV hoX (apL _) rfl) ?_)
   rw [d2]
   show Code.wp P _ _ _ _
   refine wp_seq (wp_cond_true (hev _ _) ?_)
   have apM:∀ {Q':Exit->Act->World->Prop} {a':Act} {w':World},Q' .normal a' w'->sk.wp P Q' a' w':=by
    intro Q' a' w' h
    cases sk<;>simp [wW] at k4
    · exact wp_skip h
    · exact wp_label h
   refine apM ?_
   show Code.wp P _ _ _ _
   obtain ⟨a2,ha2⟩:∃ a2,a2=(a.put (some n.nx) (.tuple #[.bool true,e.key,e.val])).put (some n.tx) (.bool true):=⟨_,rfl⟩
   rw [<-ha2]
   have hf2:aS E N (fr.jZ [n.nx,n.tx,n.en]) a2:=by rw [ha2];exact fr2 _ _ _ (bU.2 (by simp)) (bU.2 (by simp))
   have Kx:a2.defers=[]:=by rw [ha2,put_defers,put_defers];exact hd
   have ayY:a2.eval (.tmp n.it)=.pointer (some ⟨r,0,none⟩):=by
    rw [ha2]
    have h0:a.tmps.getD n.it undef=_:=hia
    show (((a.put (some n.nx) _).put (some n.tx) _).tmps.getD n.it undef)=_
    simp only [Act.put,Array.getD_eq_getD_getElem?] at h0 ⊢
    rw [Array.getElem?_setIfInBounds_ne ne2,Array.getElem?_setIfInBounds_ne ne1]
    exact h0
   unfold Wo at k5
   split at k5
   case h_2=>cases k5
   rename_i oE lE akJ
   simp only [Bool.and_eq_true,decide_eq_true_eq] at k5
   obtain ⟨⟨⟨⟨g3,d3⟩,n3⟩,p3⟩,apN⟩:=k5
   split at p3
   case h_2=>cases p3
   rename_i xE hoE
   have e3:=QE p3
   subst e3
   have ayZ:o3[0]? =some oE:=by rw [<-Array.getElem?_toList,akJ];rfl
   have ay0:∀ k o,lE[k]? =some o->o3[1+k]? =some o:=fun k o h=>by rw [<-Array.getElem?_toList,akJ,Nat.add_comm];exact h
   have ay1:List.range o3.size=0::List.range' 1 lE.length:=by
    have:o3.size=lE.length+1:=by rw [<-Array.length_toList,akJ];rfl
    rw [this,List.range_eq_range',List.range'_succ]
   have akK:(Instr.entry (.pointer (some ⟨r,0,none⟩))).run P wn=.ok (.tuple #[e.key,e.val]) wn:=
    run_entry_at wn r (E.μ mk).bI clock seen aY clock e hat (by rw [B1 _ apK];exact hbm) (Array.mem_toList_iff.2 (Array.mem_of_getElem? aiC)) ht.bo.2
   refine wp_block (wp_seq (wp_region ?_))
   rw [ay1]
   refine LC ayZ g3 (r8 (Jb hoE ayY akK) ?_)
   rw [d3]
   obtain ⟨r1,r2,r3⟩:=ht.rel j x e hej aiC
   have hrt:Rel E (.bC [x.1,x.2]) (.tuple #[e.key,e.val]):=by
    refine .bC _ _ rfl fun i v y hv hy=>?_
    match i with
    |0=>simp at hv hy;subst hv;subst hy;exact .deep r1
    |1=>simp at hv hy;subst hv;subst hy;exact r3.mono (E.Aa mk)
    |i+2=>simp at hv
   have hf3:aS E N ((n.en,.bC [x.1,x.2])::fr.jZ [n.nx,n.tx,n.en]) (a2.put (some n.en) (.tuple #[e.key,e.val])):=
    aS.next hf2 (dst:=some n.en) (fun d h=>by cases h;exact n3) hrt []
   have hb:=apJ L1 x L2 (QF.trans hl1)
   rw [Fr.b8] at hb
   obtain ⟨Qr,hQr⟩:∃ Qr,Qr=akE n.b0 n.b1 (fun fr st=>∀ (E:Env) (w:World) (a:Act) (seen:Array Nat),L1++L2=r7 es aY seen->RJ mk wO kd es aY clock r E st w seen->bQ E st w->Ext E0 st0 w0 E (st.ins mk o) w->aS E N fr a->a.defers=[]->gI P c (p7 N E0 st0 w0 (jD n.b0 Q)) a w) mk o Q:=⟨_,rfl⟩
   have hb:(mV n.post ((n.en,.bC [x.1,x.2])::fr.jZ [n.nx,n.tx,n.en]) st).sv (aE P) (pE (rW (spV (aE P) n.body Qr) Qr)):=by rw [hQr];exact hb
   rw [T.QB] at hb
   have hb:=pQ (aE.mono P) n.post _ st _ (T.BQ (aE.mono P) _ _ hb)
   refine ops_ok n.post lE 1 apN ay0 hsn hf3 hb ?_
   intro fr4 st4 E4 a4 w4 h4 s4 x4 f4 df4
   show Code.wp P _ _ _ _
   have h4:spV (aE P) n.body Qr fr4 st4:=h4
   refine wp_mono (code_ok (E0:=E) (st0:=st) (w0:=wn) n.body body k6 Qr s4 x4 f4 (df4.trans (by rw [put_defers];exact Kx)) (uU (aE.mono P) _ _ _ _ _ h4 fun _ _ _ h=>h)) ?_
   intro e' a5 w5 h5
   -- a round more
   have more:∀ fr5 Wr E5,(∀ (E:Env) (w:World) (a:Act) (seen:Array Nat),L1++L2=r7 es aY seen->RJ mk wO kd es aY clock r E Wr w seen->bQ E Wr w->Ext E0 st0 w0 E (Wr.ins mk o) w->aS E N fr5 a->a.defers=[]->gI P c (p7 N E0 st0 w0 (jD n.b0 Q)) a w)->
    bQ E5 Wr w5->Ext E st wn E5 Wr w5->aS E5 N fr5 a5->a5.defers=[]->gI P c (p7 N E0 st0 w0 (jD n.b0 Q)) a5 w5:=fun fr5 Wr E5 hR s5 x5 f5 d5=>
    hR E5 w5 a5 (seen.push e.born) Ky.symm (htn.step x5) s5 (mQ.trans (x5.ins o ht.hm)) f5 d5
   cases e' with
   |normal=>
    obtain ⟨fr5,Wr,E5,hq,s5,x5,f5,d5⟩:=h5
    rw [hQr] at hq
    exact more fr5 Wr E5 hq s5 x5 f5 d5
   |exit id=>
    obtain ⟨fr5,Wr,E5,hq,s5,x5,f5,d5⟩:=h5
    rw [hQr] at hq
    simp only [akE] at hq
    simp only [Exit.inBlock]
    split
    · rename_i Gf
      rw [if_pos Gf] at hq
      exact more fr5 Wr E5 hq s5 x5 f5 d5
    · rename_i Gf
      rw [if_neg Gf] at hq
      show IA N E0 st0 w0 (jD n.b0 Q (.exit id)) a5 w5
      split at hq
      · rename_i akL
        have eb:jD n.b0 Q (.exit id)=Q .normal:=by funext fr st;simp [jD,akL]
        rw [eb]
        exact leave _ _ _ _ _ _ _ (htn.step x5) s5 (mQ.trans (x5.ins o ht.hm)) f5 d5 hq
      · rename_i akL
        have eb:jD n.b0 Q (.exit id)=Q (.exit id):=by funext fr st;simp [jD,akL]
        rw [eb]
        exact leave _ _ _ _ _ _ _ (htn.step x5) s5 (mQ.trans (x5.ins o ht.hm)) f5 d5 hq
   |ret=>
    obtain ⟨fr5,Wr,E5,hq,s5,x5,f5,d5⟩:=h5
    rw [hQr] at hq
    exact leave .ret _ _ _ _ _ _ (htn.step x5) s5 (mQ.trans (x5.ins o ht.hm)) f5 d5 hq
   |goto l=>exact h5.elim
   |panic ch=>exact h5.elim
   |outgrown=>exact h5.elim
theorem rng_ok {c:Code} {n:BS} (hk:Wp P N c n=true) (Q:Ex->Fr->St->Prop) {fr:Fr} {st:St} {E:Env} {w:World} {a:Act} (hs:bQ E st w) (he:Ext E0 st0 w0 E st w) (hf:aS E N fr a) (hd:a.defers=[])
 (hw:spN (aE P) n Q fr st):c.wp P (p7 N E0 st0 w0 Q) a w:=by
 unfold Wp at hk
 split at hk
 case h_2=>cases hk
 rename_i id1 o1 d1 i0 id2 o2 d2 cx sk i0' i1 id3 o3 d3 body
 simp only [Bool.and_eq_true,decide_eq_true_eq,Bool.not_eq_true'] at hk
 obtain ⟨⟨⟨⟨⟨⟨⟨⟨⟨⟨⟨rfl,rfl⟩,rfl⟩,rfl⟩,rfl⟩,rfl⟩,k1⟩,k2⟩,k3⟩,k4⟩,k5⟩,k6⟩:=hk
 obtain ⟨l',oR,tR,xR,kt,et,hl,VQ,hgR,hdR,ay2,hoR,hxR,hu⟩:=BT k1
 refine wp_seq (wp_region ?_)
 have akM:List.range o1.size=List.range' 0 l'.length++[l'.length]:=by
  have:o1.size=l'.length+1:=by rw [<-Array.length_toList,hl];simp
  rw [this,List.range_eq_range',List.range'_concat];simp
 rw [akM]
 have fY:∀ j o,l'[j]? =some o->o1[0+j]? =some o:=fun j o h=>by
  have hj:j<l'.length:=(List.getElem?_eq_some_iff.1 h).1
  rw [Nat.zero_add,<-Array.getElem?_toList,hl,List.getElem?_append_left hj];exact h
 have apO:o1[l'.length]? =some oR:=by rw [<-Array.getElem?_toList,hl];simp
 unfold spN at hw
 rw [T.QB] at hw
 have hw:=pQ (aE.mono P) n.pre fr st _ (T.BQ (aE.mono P) _ _ hw)
 refine Df [l'.length] n.pre l' 0 VQ fY hs hf hw ?_
 clear hw hs hf
 intro F9 T8 E1 a1 w1 hw hs he1 hf EJ
 have EJ:a1.defers=[]:=EJ.trans hd
 have he1:=he.trans he1
 dsimp only at hw
 split at hw
 case h_2=>exact hw.elim
 rename_i mk hmk
 obtain ⟨o,ON,hw⟩:=hw.h
 split at hw
 case h_2=>exact hw.elim
 rename_i kd es
 refine LC apO hgR ?_
 have hrm:=aQ hxR hf
 rw [hmk] at hrm
 obtain ⟨bmE,hEm,hbm⟩:∃ b,(E1.μ mk).bI=b/\a1.eval xR=.map (some b):=by
  generalize hv:a1.eval xR=v at hrm
  cases hrm with
  |deep hd=>cases hd
  |m _ hk=>exact ⟨_,rfl,rfl⟩
 have lA:T8.live mk:=⟨_,ON⟩
 have apP:=hs.j8 mk lA
 obtain ⟨aY,clock,T4,hb2,hb3,hb4⟩:=hs.obj mk _ ON
 rw [hEm] at T4
 refine r8 (Ja hoR hu hbm T4) ?_
 rw [hdR]
 -- Og world with Og iterator
 obtain ⟨w2,hw2⟩:∃ w2,w2=w1.alloc (.mapIter (some bmE) clock #[] clock):=⟨_,rfl⟩
 have hh2:w2.heap=w1.heap.push (.mapIter (some bmE) clock #[] clock):=by rw [hw2];rfl
 rw [<-hw2]
 obtain ⟨r,hr⟩:∃ r,r=w1.heap.size:=⟨_,rfl⟩
 rw [<-hr]
 have wV:=hs.aside hh2
 have he2:=he1.aside hs hh2 (by rw [hw2];rfl) (by rw [hw2];rfl) (by rw [hw2];rfl)
 have Ws:=E1.AM w1.heap.size
 rw [<-hr] at wV he2 Ws
 obtain ⟨wO,apR⟩:∃ wO,wO=Key.l T8.l.next:=⟨_,rfl⟩
 have Um:wO=E1.aK false:=by rw [apR,hs.nl];rfl
 have apS:(E1.aside r).has wO:=by rw [Um];exact Env.eI _ _ _ _
 have apT:(E1.aside r).μ wO=⟨r,0,0⟩:=by rw [Um];exact Env.e9 _ _ _ _
 have hold:∀ b,b<r->w2.heap[b]? =w1.heap[b]? :=fun b hb=>by rw [hh2,Array.getElem?_push,if_neg (by omega)]
 have ay6:bmE<r:=by rw [hr];exact (Array.getElem?_eq_some_iff.1 T4).1
 have hmu:(E1.aside r).μ mk=E1.μ mk:=Env.r6 apP
 have hlb:∀ k,((T8.remove mk).DT).live k->k≠mk/\T8.live k:=by
  intro k hk
  obtain ⟨x,hx⟩:=St.lN.1 hk
  rw [St.gP] at hx
  split at hx
  · cases hx
  · exact ⟨‹_›,x,hx⟩
 have ay7:(T8.remove mk).DT=T8.DT.remove mk:=by cases mk<;>rfl
 have trk:RJ mk wO kd es aY clock r (E1.aside r) (T8.remove mk).DT w2 #[]:=by
  refine ⟨Ws.has apP,apS,apT,?_,?_,hb4,hb2,fun j q e h1 h2=>?_,fun k hk=>?_,fun j h1 h2=>?_⟩
  · rw [hmu,hEm,hold _ ay6];exact T4
  · rw [hmu,hEm,hh2,hr];simp
  · obtain ⟨x,y,z⟩:=hb3 j q e h1 h2
    have x:eH E1.I q.1 e.key:=by cases mk<;>exact x
    exact ⟨x.mono Ws.jR,y,z.mono (Env.jS Ws mk)⟩
  · obtain ⟨h1,h2⟩:=hlb k hk
    rw [Env.r6 (hs.j8 k h2),hmu]
    exact ⟨hs.sep k mk h2 lA h1,by have:=hs.lt h2;omega⟩
  · rw [hmu] at h1 h2 ⊢
    rw [Env.CO]
    exact hs.own mk lA j h1 h2
 have hsR:bQ (E1.aside r) (T8.remove mk).DT w2:=by rw [ay7];exact wV.less mk
 have heR:Ext E0 st0 w0 (E1.aside r) ((T8.remove mk).DT.ins mk (.mp kd es)) w2:=by
  refine he2.Wn ⟨by cases mk<;>rfl,by cases mk<;>rfl,fun k=>?_⟩
  rw [St.AK,St.AL,St.AL,St.gP]
  split
  · rename_i h;subst h;exact ON.symm
  · rfl
 have hf2:aS (E1.aside r) N ((n.it,.p wO 0)::F9) (a1.put (some n.it) (.pointer (some ⟨r,0,none⟩))):=by
  have hp:Rel (E1.aside r) (.p wO 0) (.pointer (some ⟨r,0,none⟩)):=by
   have:=Rel.p (E:=E1.aside r) wO 0 apS
   rw [apT] at this
   simpa using this
  exact aS.next (hf.mono Ws) (dst:=some n.it) (fun d h=>by cases h;exact ay2) hp []
 have hr0:w0.heap.size<=r:=by rw [hr];exact he1.size
 rw [<-apR] at hw
 show Code.wp P _ _ _ _
 refine wp_block ?_
 have hbl:∀ e a' w',p7 N E0 st0 w0 (jD n.b0 Q) e a' w'->Exit.inBlock n.b0 (p7 N E0 st0 w0 Q) e a' w':=by
  intro e a' w' h
  cases e with
  |normal=>exact h
  |exit id=>
   obtain ⟨bV,bA,E',h1,h2⟩:=h
   simp only [jD] at h1
   simp only [Exit.inBlock]
   split
   · rename_i Gf;rw [if_pos Gf] at h1;exact ⟨bV,bA,E',h1,h2⟩
   · rename_i Gf;rw [if_neg Gf] at h1;exact ⟨bV,bA,E',h1,h2⟩
  |ret=>exact h
  |goto l=>exact h
  |panic ch=>exact h
  |outgrown=>exact h
 refine wp_mono ?_ hbl
 obtain ⟨o,ho⟩:∃ o,o=Obj.mp kd es:=⟨_,rfl⟩
 rw [<-ho] at hw heR
 have key:=hw.h (fun left fr st=>∀ (E:Env) (w:World) (a:Act) (seen:Array Nat),left=r7 es aY seen->RJ mk wO kd es aY clock r E st w seen->bQ E st w->Ext E0 st0 w0 E (st.ins mk o) w->aS E N fr a->a.defers=[]->
  gI P (Code.seq (.region id2 o2 false) (.seq (.cond cx sk (.exit n.b0)) (.block n.b1 (.seq (.region id3 o3 false) body)))) (p7 N E0 st0 w0 (jD n.b0 Q)) a w)
  fun left iW fr st hle hx E w a seen QF ht hs he hf hd=>gI.next (round_ok k2 k3 k4 k5 k6 Q hr0 ho QF ht hs he (hf.le hle) hd hx)
 exact (key (E1.aside r) w2 _ #[] (RL hb2).symm trk hsR heR hf2 (by rw [put_defers];exact EJ)).loop
theorem rc_ok:∀ (A:RC) (c:Code),okR P N c A=true->∀ (Q:Ex->Fr->St->Prop) {fr:Fr} {st:St} {E:Env} {w:World} {a:Act},
 bQ E st w->Ext E0 st0 w0 E st w->aS E N fr a->a.defers=[]->spR (aE P) A Q fr st->c.wp P (p7 N E0 st0 w0 Q) a w
 |.ac A,c,hk,Q,fr,st,E,w,a,hs,he,hf,hd,hw=>code_ok A c (by cases c<;>exact hk) Q hs he hf hd (uU (aE.mono P) _ _ _ _ _ hw fun _ _ _ h=>h)
 |.rng n,c,hk,Q,fr,st,E,w,a,hs,he,hf,hd,hw=>rng_ok (by cases c<;>exact hk) Q hs he hf hd hw
 |.seq A B,c,hk,Q,fr,st,E,w,a,hs,he,hf,hd,hw=>by
  cases c<;>simp [okR] at hk
  rename_i x y
  refine wp_seq ?_
  refine wp_mono (rc_ok A x hk.1 _ hs he hf hd hw) ?_
  intro e a' w' h
  cases e with
  |normal=>
   obtain ⟨bV,bA,E',h1,h2,h3,h4,h5⟩:=h
   exact rc_ok B y hk.2 Q h2 h3 h4 h5 h1
  |exit id=>exact h
  |ret=>exact h
  |goto l=>exact h
  |panic ch=>exact h
  |outgrown=>exact h
theorem apU {f:Nat} {F:RFn} (hk:QD P f F=true) {args:List V} (hn:args.length=F.nparams) {h:aC} {K:V->aC->Prop}
 (hw:(dN 0 args).fS fun fr=>spR (aE P) F.body (mT F.results K) fr (gH h)):aE P f args h K:=by
 rw [Fr.uT] at hw
 unfold QD at hk
 split at hk
 case h_2=>cases hk
 rename_i fn U7
 split at hk
 case h_2=>cases hk
 rename_i c hb
 simp only [Bool.and_eq_true,decide_eq_true_eq] at hk
 obtain ⟨⟨⟨k1,k2⟩,k3⟩,k4⟩:=hk
 exact ahT U7 hb k1 k3 k4 hn fun E w a hs K3 hd=>rc_ok (E0:=E) (st0:=gH h) (w0:=w) F.body c k2 _ hs (.refl _ _ _) K3 hd hw
end
end Go.Eng
namespace Go.Eng.AF
open Go Go.Eng
def Wt:RFn:=⟨2,.seq (.ac (rR [oO 3 (.box false 1) [1],
 oA 4 kF [4]])) (.seq (.ac (rS [oF 7 2 3,
 oL 8 7,
 oO 9 (.un .not 8) [8]] (.cond 9 (.seq (.BZ [dq 0 (oP 10 0),
 dq 1 (oO 11 (.zW 10) []),
 dq 2 (oF 12 1 11),
 dq 3 (oK 13 12),
 dq 4 (oF 14 0 3),
 dq 5 (oK 15 14),
 dq 6 (oO 16 (.Ui none (.agg [vS,(vI 0),.aB]) 13 15 false) []),
 dq 7 (oO 17 (.QW 1 none 16) []),
 dq 8 (oF 18 1 3),
 dq 9 (oK 19 18),
 dq 10 (oO 20 (.bin .eql 17 19) []),
 dq 11 (oA 4 20 [])] [0,10,11,12,13,3,14,15,16,17,18,19,20])
 .ret)
 .skip))) (.seq (.rng ⟨[oQ 21 0,
 oO 22 (.zW 21) [21],
 oE 23 2 22,
 oL 24 23],24,25,26,27,28,0,1,[oO 29 (.ext 28 0) [],
 oO 30 (.ext 28 1) [28],
 oB 5 29,
 oB 6 30],(rS [oQ 31 6,
 oF 32 1 3,
 oL 33 32,
 oO 34 (.bin .gtr 31 33) [31,33],
 oQ 35 34,
 oG 36 (.mv 5) 35 [5],
 oG 37 (.oW 0 3) 35 [],
 oG 38 (.load none 37) 35 [37],
 oG 39 (.call 379 [36,38]) 35 [36,38],
 oO 40 (.pick 35 39 kF) [35,39]] (.cond 40 (rS [oA 4 kF []] .ret)
 .skip))⟩) (.ac (rS [oA 4 kT []] .ret)))),[.t 4]⟩
end Go.Eng.AF
namespace Go.Proofs.YtdjbjnnfmkoceaaGreat
open Go Go.Eng Go.Eng.AF
theorem Wu:QD Tryz.prog 317 Wt=true:=by kernel_rfl
end Go.Proofs.YtdjbjnnfmkoceaaGreat
