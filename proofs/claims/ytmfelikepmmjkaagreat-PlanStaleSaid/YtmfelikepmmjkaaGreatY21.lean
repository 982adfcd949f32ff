/-
Runs from the empty heap that are spelt out; at a loop's head memory may be told anew.
-/
import Derived.Test.YtmfelikepmmjkaaGreatY09
import Derived.Test.YtmfelikepmmjkaaGreatY20
set_option linter.unusedVariables false
set_option linter.unusedSimpArgs false
namespace Go.Eng
open Go
structure bC (N:Nat) (A:bS) (b:AC) (ib:zZ) (Q:Ex->Fr->St->Prop) (fr:Fr) (st:St):Prop where
 h:∀ R:Fr->St->Prop,(∀ fr st bZ bU,yK N fr st bZ bU->ib (o9 R Q) bZ bU->R fr st)->R fr st
theorem bC.by {N:Nat} {A:bS} {b:AC} {ib:zZ} {Q:Ex->Fr->St->Prop} {fr:Fr} {st:St} (I:Nat->Fr->St->Prop) (n:Nat) (h0:∃ bZ bU,yK N fr st bZ bU/\I n bZ bU)
 (hs:∀ n fr st,I n fr st->∀ R:Fr->St->Prop,(∀ m fr st,m<n->(∃ bZ bU,yK N fr st bZ bU/\I m bZ bU)->R fr st)->ib (o9 R Q) fr st):bC N A b ib Q fr st:=by
 refine ⟨fun R hR=>?_⟩
 have key:∀ n fr st,(∃ bZ bU,yK N fr st bZ bU/\I n bZ bU)->R fr st:=by
  intro n
  induction n using Nat.strongRecOn with
  |_ n ih=>
   rintro fr st ⟨bZ,bU,hc,hi⟩
   exact hR fr st bZ bU hc (hs n bZ bU hi R fun m fr st hm hi=>ih m hm fr st hi)
 exact key n fr st h0
noncomputable def Sp (N:Nat) (A:bS) (c:AC):zZ:=
 AC.rec (motive:=fun _=>zZ) (fun Q fr st=>Q .normal fr st) (fun ops Q fr st=>(jP ops fr st).sq A (iE Q)) (fun ds kill Q fr st=>((uK ds [] fr st).bq (tF kill)).sq A (iE Q))
  (fun _ _ ia ib Q fr st=>ia (o9 (ib Q) Q) fr st)
  (fun c _ _ ia ib Q fr st=>match c.ev fr with
    |.b x=>aH x (ia Q fr st) (ib Q fr st)
    |_=>False)
  (fun id _ ib Q fr st=>ib (jO id Q) fr st) (fun b ib Q fr st=>bC N A b ib Q fr st) (fun id Q fr st=>Q (.exit id) fr st) (fun Q fr st=>Q .ret fr st) (fun _ _ _=>False) c
theorem Jh (N:Nat) (A:bS) (c:bH) (a b:AC) (Q:Ex->Fr->St->Prop) (fr:Fr) (st:St):Sp N A (.cond c a b) Q fr st=match c.ev fr with
 |.b x=>aH x (Sp N A a Q fr st) (Sp N A b Q fr st)
 |_=>False:=rfl
theorem uL {N:Nat} {A:bS} (hA:A.sD):∀ (c:AC) (Q Q':Ex->Fr->St->Prop) (fr:Fr) (st:St),Sp N A c Q fr st->(∀ e fr st,Q e fr st->Q' e fr st)->NS N A c Q' fr st
 |.skip,Q,Q',fr,st,h,hq=>hq _ _ _ h
 |.AK ops,Q,Q',fr,st,h,hq=>by
  have h:(jP ops fr st).sq A (iE Q):=h
  rw [T.BI] at h
  exact T.wp_mono hA (fun ⟨_,_⟩ h=>hq _ _ _ h) (sK hA ops fr st _ (T.xO hA _ _ h))
 |.tD ds kill,Q,Q',fr,st,h,hq=>by
  refine T.wp_mono hA (fun ⟨_,_⟩ h=>hq _ _ _ h) (?_:T.wp A _ (iE Q))
  have h:((uK ds [] fr st).bq (tF kill)).sq A (iE Q):=h
  rw [T.BI,T.DO] at h
  have h:=T.xO hA _ _ h
  rw [T.wp_bind] at h ⊢
  exact zY hA _ _ _ _ _ h
 |.seq a b,Q,Q',fr,st,h,hq=>by
  refine uL hA a _ _ fr st h ?_
  intro e fr st h
  cases e with
  |normal=>exact uL hA b _ _ fr st h hq
  |exit id=>exact hq _ _ _ h
  |ret=>exact hq _ _ _ h
 |.cond c a b,Q,Q',fr,st,h,hq=>by
  rw [Jh] at h
  simp only [NS]
  split at h
  · rename_i x hx
    try rw [hx]
    exact ⟨fun hc=>uL hA a _ _ _ _ (h.t hc) hq,fun hc=>uL hA b _ _ _ _ (h.f hc) hq⟩
  · exact h.elim
 |.bL id b,Q,Q',fr,st,h,hq=>by
  refine uL hA b _ _ fr st h ?_
  intro e fr st h
  cases e with
  |normal=>exact hq _ _ _ h
  |exit AN=>
   simp only [jO] at h ⊢
   split
   · rename_i hi;rw [if_pos hi] at h;exact hq _ _ _ h
   · rename_i hi;rw [if_neg hi] at h;exact hq _ _ _ h
  |ret=>exact hq _ _ _ h
 |.loop b,Q,Q',fr,st,h,hq=>by
  intro R hR
  refine h.h R fun fr st bZ bU hl hx=>hR fr st bZ bU hl ?_
  refine uL hA b _ _ bZ bU hx ?_
  intro e fr st h
  cases e with
  |normal=>exact h
  |exit id=>exact hq _ _ _ h
  |ret=>exact hq _ _ _ h
 |.exit id,Q,Q',fr,st,h,hq=>hq _ _ _ h
 |.ret,Q,Q',fr,st,h,hq=>hq _ _ _ h
 |.no,_,_,_,_,h,_=>h.elim
theorem UU {P:Program} {f:Nat} {F:aW} (hk:gE P f F=true) {args:List V} (hn:args.length=F.nparams) {K:V->aA->Prop}
 (hw:(bT 0 args).fS fun fr=>Sp 0 (aB P) F.body (wR F.results K) fr (dG gZ)):aB P f args gZ K:=by
 rw [Fr.pD] at hw
 exact Wf hk hn (uL (aB.mono P) _ _ _ _ _ hw fun _ _ _ h=>h)
theorem Zm {P:Program} {f:Nat} {F:aW} (hk:gE P f F=true) {args:List V} (hn:args.length=F.nparams) {h0:aA} {K:V->aA->Prop}
 (hw:(bT 0 args).fS fun fr=>Sp h0.next (aB P) F.body (wR F.results K) fr (dG h0)):aB P f args h0 K:=by
 rw [Fr.pD] at hw
 exact QK hk hn (uL (aB.mono P) _ _ _ _ _ hw fun _ _ _ h=>h)
theorem pG {N:Nat} {A:bS} (hA:A.sD):∀ (c:AC) (Q Q':Ex->Fr->St->Prop) (fr:Fr) (st:St),Sp N A c Q fr st->(∀ e fr st,Q e fr st->Q' e fr st)->Sp N A c Q' fr st
 |.skip,Q,Q',fr,st,h,hq=>hq _ _ _ h
 |.AK ops,Q,Q',fr,st,h,hq=>by
  have h:(jP ops fr st).sq A (iE Q):=h
  show (jP ops fr st).sq A (iE Q')
  rw [T.BI] at h ⊢
  exact T.qB hA _ (fun ⟨_,_⟩ h=>hq _ _ _ h) h
 |.tD ds kill,Q,Q',fr,st,h,hq=>by
  have h:((uK ds [] fr st).bq (tF kill)).sq A (iE Q):=h
  show ((uK ds [] fr st).bq (tF kill)).sq A (iE Q')
  rw [T.BI] at h ⊢
  exact T.qB hA _ (fun ⟨_,_⟩ h=>hq _ _ _ h) h
 |.seq a b,Q,Q',fr,st,h,hq=>by
  refine pG hA a _ _ fr st h ?_
  intro e fr st h
  cases e with
  |normal=>exact pG hA b _ _ fr st h hq
  |exit id=>exact hq _ _ _ h
  |ret=>exact hq _ _ _ h
 |.cond c a b,Q,Q',fr,st,h,hq=>by
  rw [Jh] at h ⊢
  split at h
  · exact ⟨fun hc=>pG hA a _ _ _ _ (h.t hc) hq,fun hc=>pG hA b _ _ _ _ (h.f hc) hq⟩
  · exact h.elim
 |.bL id b,Q,Q',fr,st,h,hq=>by
  refine pG hA b _ _ fr st h ?_
  intro e fr st h
  cases e with
  |normal=>exact hq _ _ _ h
  |exit AN=>
   simp only [jO] at h ⊢
   split
   · rename_i hi;rw [if_pos hi] at h;exact hq _ _ _ h
   · rename_i hi;rw [if_neg hi] at h;exact hq _ _ _ h
  |ret=>exact hq _ _ _ h
 |.loop b,Q,Q',fr,st,h,hq=>by
  refine bC.mk fun R hR=>h.h R fun fr st bZ bU hl hx=>hR fr st bZ bU hl ?_
  refine pG hA b _ _ bZ bU hx ?_
  intro e fr st h
  cases e with
  |normal=>exact h
  |exit id=>exact hq _ _ _ h
  |ret=>exact hq _ _ _ h
 |.exit id,Q,Q',fr,st,h,hq=>hq _ _ _ h
 |.ret,Q,Q',fr,st,h,hq=>hq _ _ _ h
 |.no,_,_,_,_,h,_=>h.elim
theorem bC.un {N:Nat} {P:Program} {b:AC} {ib:zZ} {Q:Ex->Fr->St->Prop} {fr:Fr} {st:St} (hib:Sp N (aB P) b=ib) (h:ib (o9 (bC N (aB P) b ib Q) Q) fr st):bC N (aB P) b ib Q fr st:=by
 subst hib
 refine ⟨fun R hR=>hR fr st fr st (.inl ⟨rfl,rfl⟩) (pG (aB.mono P) b _ _ fr st h ?_)⟩
 intro e fr st hx
 cases e with
 |normal=>exact hx.h R hR
 |exit id=>exact hx
 |ret=>exact hx
def BJ (ρ:Ren) (b:pT) (F:Fz) (bZ fr:Fr):Prop:=∀ t,OY ρ b F (fr.get t) (bZ.get t)
theorem BJ.nil {ρ:Ren} {b:pT} {F:Fz} {fr:Fr}:BJ ρ b F [] fr:=fun _=>.inl (.inl .fK)
theorem BJ.cons {ρ:Ren} {b:pT} {F:Fz} {n:Nat} {v:V} {r fr:Fr} (h:OY ρ b F (fr.get n) v) (hr:BJ ρ b F r fr):BJ ρ b F ((n,v)::r) fr:=by
 intro t
 simp only [Fr.get]
 split
 · rename_i hn;subst hn;exact h
 · exact hr t
def wU (ρ:Ren) (F:Fz) (mk:Nat->Key) (f:Nat->Nat) (n:Nat) (b:pT) (h:aA):List (Nat×Obj)->Prop
 |[]=>True
 |q::r=>(q.1<n/\F (mk (f q.1))=none/\∃ o,h.get (f q.1)=some o/\XJ ρ b F o q.2)/\wU ρ F mk f n b h r
theorem wU.get {ρ:Ren} {F:Fz} {mk:Nat->Key} {f:Nat->Nat} {n:Nat} {b:pT} {h:aA}:∀ {l:List (Nat×Obj)},wU ρ F mk f n b h l->∀ {k:Nat} {o:Obj},aA.find l k=some o->k<n/\F (mk (f k))=none/\∃ o0,h.get (f k)=some o0/\XJ ρ b F o0 o
 |[],_,k,o,hk=>by simp [aA.find] at hk
 |(i,x)::r,hh,k,o,hk=>by
  simp only [aA.find] at hk
  split at hk
  · rename_i e
    subst e
    cases hk
    exact hh.1
  · exact wU.get hh.2 hk
theorem Ln.of {N:Nat} {ρ:Ren} {F:Fz} {fr bZ:Fr} {st bU:St} (hz:A7 st F) (hg:wU ρ F .g ρ.g bU.g.next ⟨bU.g.next,0⟩ st.g bU.g.rY) (hl:wU ρ F .l ρ.l bU.l.next ⟨bU.g.next,bU.l.next⟩ st.l bU.l.rY)
 (ig:∀ i,i<bU.g.next->∀ j,j<bU.g.next->ρ.g i=ρ.g j->i=j) (il:∀ i,i<bU.l.next->∀ j,j<bU.l.next->ρ.l i=ρ.l j->i=j)
 (hf:BJ ρ ⟨bU.g.next,bU.l.next⟩ F bZ fr) (hN:∀ i,i<N->ρ.g i=i) (Zn:N<=bU.g.next):yK N fr st bZ bU:=by
 refine .inr ⟨ρ,F,?_,hN,Zn⟩
 have eC:∀ k o',bU.get k=some o'->bU.lim.has k/\F (ρ.key k)=none/\∃ o,st.get (ρ.key k)=some o/\XJ ρ (k.lim bU.lim) F o o':=by
  intro k o hk
  cases k with
  |g n=>exact hg.get hk
  |l n=>exact hl.get hk
 refine ⟨hz,fun k k' ⟨o,hk⟩ ⟨o',hZ⟩ e=>?_,eC,hf⟩
 have h1:=(eC k o hk).1
 have h2:=(eC k' o' hZ).1
 cases k with
 |g n=>cases k' with
  |g m=>
   simp only [Ren.key,Key.g.injEq] at e
   rw [ig n h1 m h2 e]
  |l m=>simp [Ren.key] at e
 |l n=>cases k' with
  |g m=>simp [Ren.key] at e
  |l m=>
   simp only [Ren.key,Key.l.injEq] at e
   rw [il n h1 m h2 e]
open Go
theorem QL {v:V} (h:v.flat=true) (ρ:Ren):v.gV ρ=v:=by
 cases v<;>simp [V.flat] at h<;>(try rfl)
 case sl t z e=>cases t<;>first|rfl|simp at h
theorem Tr {v:V} (h:v.flat=true) (b:pT):v.bd0 b:=by
 cases v<;>simp [V.flat] at h<;>(try trivial)
 case sl t z e=>cases t<;>first|trivial|simp at h
theorem iM {ρ:Ren} {b:pT} {F:Fz} {v:V} (h:v.flat=true):Ce ρ b F v v:=.A6 (QL h ρ).symm (Tr h b)
theorem fO {ρ:Ren} {b:pT} {F:Fz}:∀ {l:List V},l.all V.flat=true->yZ ρ b F l l
 |[],_=>trivial
 |v::r,h=>by
  simp only [List.all_cons,Bool.and_eq_true] at h
  exact ⟨iM h.1,fO h.2⟩
theorem rG {ρ:Ren} {b:pT} {F:Fz} {v:V} (h:v.pB=true):Sm ρ b F v v:=by
 cases v
 case agg cs=>exact .inr (.inl ⟨cs,cs,rfl,rfl,fO h⟩)
 case fn f a c=>
  simp only [V.pB,Bool.and_eq_true] at h
  exact .inr (.inr ⟨f,a,c,a,c,rfl,rfl,fO h.1,fO h.2⟩)
 all_goals exact .inl (iM h)
theorem FY {ρ:Ren} {b:pT} {F:Fz}:∀ {l:List V},l.all V.pB=true->Lk ρ b F l l
 |[],_=>trivial
 |v::r,h=>by
  simp only [List.all_cons,Bool.and_eq_true] at h
  exact ⟨rG h.1,FY h.2⟩
theorem uM {ρ:Ren} {b:pT} {F:Fz} {v:V} (h:v.free=true):OY ρ b F v v:=by
 cases v
 case bY cs=>exact .inr ⟨cs,cs,rfl,rfl,FY h⟩
 all_goals exact .inl (rG h)
theorem lD {st:St}:A7 st gA:=fun k sz ds h=>by cases h
theorem Hx {ρ:Ren} {b:pT} {F:Fz} {k k':Key} {sz:Nat} {es:List (List V)} (e:ρ.key k'=k) (h:b.has k'):OY ρ b F (.sl (some k) sz es) (.sl (some k') sz es):=
 .inl (.inl (.A6 (by simp only [V.gV,e]) h))
theorem rH {ρ:Ren} {b:pT} {F:Fz} {t:Option Key} {sz:Nat} {es:List (List V)}:OY ρ b F (.sl t sz es) (.sl none sz es):=by
 cases t with
 |none=>exact .inl (.inl (.A6 rfl trivial))
 |some k=>exact .inl (.inl .tok)
theorem Aa {ρ:Ren} {b:pT} {F:Fz} {sz:Nat}:OY ρ b F .aV (.sl none sz []):=.inl (.inl .nil)
theorem QM {ρ:Ren} {b:pT} {F:Fz} {k k':Key} {o:Nat} (e:ρ.key k'=k) (h:b.has k'):OY ρ b F (.p k o) (.p k' o):=.inl (.inl (.A6 (by simp only [V.gV,e]) h))
theorem QN {ρ:Ren} {b:pT} {F:Fz} {k k':Key} {sz s n:Nat} (e:ρ.key k'=k) (h:b.has k'):OY ρ b F (.ms k sz s n) (.ms k' sz s n):=.inl (.inl (.A6 (by simp only [V.gV,e]) h))
def UW:Ren:=⟨id,id⟩
theorem aeF {fr bZ:Fr} {st:St} (hf:BJ UW ⟨0,0⟩ gA bZ fr):Jg fr st bZ (dG gZ):=
 Ln.of lD trivial trivial (fun i hi=>absurd hi (Nat.not_lt_zero _)) (fun i hi=>absurd hi (Nat.not_lt_zero _)) hf (fun i hi=>absurd hi (Nat.not_lt_zero _)) (Nat.zero_le _)
def st1:St:=⟨gZ,⟨1,[(0,.spare)]⟩⟩
theorem aeG (ks:List Nat) {n:Nat} {rY:List (Nat×Obj)} {fr bZ:Fr} {st:St} (hn:ks.length=n) (hd:ks.Nodup) (hl:wU ⟨id,fun i=>ks.getD i 0⟩ gA .l (fun i=>ks.getD i 0) n ⟨0,n⟩ st.l rY) (hf:BJ ⟨id,fun i=>ks.getD i 0⟩ ⟨0,n⟩ gA bZ fr):
 Jg fr st bZ ⟨gZ,⟨n,rY⟩⟩:=by
 refine Ln.of lD trivial hl (fun i hi=>absurd hi (Nat.not_lt_zero _)) (fun i hi j hj e=>?_) hf (fun i hi=>absurd hi (Nat.not_lt_zero _)) (Nat.zero_le _)
 have h1:i<ks.length:=by rw [hn];exact hi
 have h2:j<ks.length:=by rw [hn];exact hj
 have e':ks.getD i 0=ks.getD j 0:=e
 simp only [List.getD_eq_getElem?_getD,List.getElem?_eq_getElem h1,List.getElem?_eq_getElem h2,Option.getD_some] at e'
 exact (List.getElem_inj hd).1 e'
theorem Ab {ks:List Nat} {n:Nat} (hn:ks.length=n) (hd:ks.Nodup):∀ i,i<n->∀ j,j<n->ks.getD i 0=ks.getD j 0->i=j:=by
 intro i hi j hj e
 have h1:i<ks.length:=by omega
 have h2:j<ks.length:=by omega
 simp only [List.getD_eq_getElem?_getD,List.getElem?_eq_getElem h1,List.getElem?_eq_getElem h2,Option.getD_some] at e
 exact (List.getElem_inj hd).1 e
theorem Zo (gs ls:List Nat) {n m:Nat} {uN uO:List (Nat×Obj)} {fr bZ:Fr} {st:St} (hn:gs.length=n) (hm:ls.length=m) (hd:gs.Nodup) (he:ls.Nodup)
 (hg:wU ⟨fun i=>gs.getD i 0,fun i=>ls.getD i 0⟩ gA .g (fun i=>gs.getD i 0) n ⟨n,0⟩ st.g uN) (hl:wU ⟨fun i=>gs.getD i 0,fun i=>ls.getD i 0⟩ gA .l (fun i=>ls.getD i 0) m ⟨n,m⟩ st.l uO)
 (hf:BJ ⟨fun i=>gs.getD i 0,fun i=>ls.getD i 0⟩ ⟨n,m⟩ gA bZ fr):Jg fr st bZ ⟨⟨n,uN⟩,⟨m,uO⟩⟩:=
 Ln.of lD hg hl (Ab hn hd) (Ab hm he) hf (fun i hi=>absurd hi (Nat.not_lt_zero _)) (Nat.zero_le _)
theorem Wg (N:Nat) (gs ls:List Nat) {n m:Nat} {uN uO:List (Nat×Obj)} {fr bZ:Fr} {st:St} (hn:gs.length=n) (hm:ls.length=m) (hd:gs.Nodup) (he:ls.Nodup) (hN:∀ i,i<N->gs.getD i 0=i) (Zn:N<=n)
 (hg:wU ⟨fun i=>gs.getD i 0,fun i=>ls.getD i 0⟩ gA .g (fun i=>gs.getD i 0) n ⟨n,0⟩ st.g uN) (hl:wU ⟨fun i=>gs.getD i 0,fun i=>ls.getD i 0⟩ gA .l (fun i=>ls.getD i 0) m ⟨n,m⟩ st.l uO)
 (hf:BJ ⟨fun i=>gs.getD i 0,fun i=>ls.getD i 0⟩ ⟨n,m⟩ gA bZ fr):yK N fr st bZ ⟨⟨n,uN⟩,⟨m,uO⟩⟩:=
 Ln.of lD hg hl (Ab hn hd) (Ab hm he) hf hN Zn
theorem lF {α:Type} {R:α->List V} {ρ:Ren} {b:pT} {F:Fz} (h:∀ x,(R x).all V.flat=true):∀ l:List α,Jf ρ b F (l.map R) (l.map R)
 |[]=>trivial
 |x::r=>⟨fO (h x),lF h r⟩
def pH (Q:V->Prop) (v:V) (h':aA):Prop:=∃ ρ F u,Ln ρ F [(0,v)] (dG h') [(0,u)] (dG gZ)/\u.free=true/\Q u
theorem CI {ρ:Ren} {F:Fz} {v u:V} {h':aA} (hz:A7 (dG h') F) (hc:OY ρ ⟨0,0⟩ F v u):Ln ρ F [(0,v)] (dG h') [(0,u)] (dG gZ):=by
 refine ⟨hz,fun k k' hk=>absurd hk cB,fun k o hk=>absurd ⟨o,hk⟩ cB,fun t=>?_⟩
 simp only [Fr.get]
 split
 · exact hc
 · exact .inl (.inl .fK)
def gV:Ren:=⟨id,id⟩
theorem aE {Q:V->Prop} {v:V} {h':aA} (hf:v.free=true) (hq:Q v):pH Q v h':=⟨gV,gA,v,CI lD (uM hf),hf,hq⟩
theorem hM {Q:V->Prop} {t:Option Key} {sz:Nat} {es:List (List V)} {h':aA} (hq:Q (.sl none sz es)):pH Q (.sl t sz es) h':=⟨gV,gA,_,CI lD rH,rfl,hq⟩
theorem pure_nil {Q:V->Prop} {sz:Nat} {h':aA} (hq:Q (.sl none sz [])):pH Q .aV h':=⟨gV,gA,_,CI lD Aa,rfl,hq⟩
theorem vZ {Q:V->Prop} {v u:V} {h':aA} (F:Fz) (hz:A7 (dG h') F) (hc:OY gV ⟨0,0⟩ F v u) (hf:u.free=true) (hq:Q u):pH Q v h':=⟨gV,F,u,CI hz hc,hf,hq⟩
def Sq (k:Nat) (sz:Nat) (ds:List (List V)):Fz:=fun k'=>if k'=.g k then some (sz,ds) else none
theorem Hy {k sz:Nat} {es ds:List (List V)} {h':aA} (h:h'.get k=some (.arr sz es)) (hd:dR es=some ds):A7 (dG h') (Sq k sz ds):=by
 intro k' dS ds' e
 unfold Sq at e
 split at e
 · rename_i hk;subst hk;cases e;exact ⟨es,h,hd⟩
 · cases e
theorem sM {Q:V->Prop} {k sz s n:Nat} {es ds:List (List V)} {h':aA} (h:h'.get k=some (.arr sz es)) (hd:dR es=some ds) (hn:s+n<=ds.length) (hq:Q (.sl none sz ((ds.drop s).take n))):pH Q (.ms (.g k) sz s n) h':=
 vZ (Sq k sz ds) (Hy h hd) (.inl (.inl (.XI (by simp [Sq]) hn rfl))) rfl hq
theorem aM {P:Program} {f:Nat} {F:aW} (hk:gE P f F=true) {args:List V} (hn:args.length=F.nparams) {Q:V->Prop}
 (hw:(bT 0 args).fS fun fr=>Sp 0 (aB P) F.body (wR F.results (pH Q)) fr (dG gZ)):Pure P f args Q:=UU hk hn hw
theorem Ji (k:Key):gV.key k=k:=by cases k<;>rfl
theorem Hz (v:V):v.gV gV=v:=by
 cases v<;>(try rfl)<;>(try simp only [V.gV,Ji])
 case sl t z e=>cases t<;>simp only [V.gV,Ji]
def Zp:List V->List V->Prop:=Lk gV ⟨0,0⟩ gA
theorem FZ {E:Env} (hn:Env) (hI:hn={ E with ng:=0,nl:=0 }) {u v:V} {x:Value} (hc:Ce gV ⟨0,0⟩ gA u v) (hr:Rel E u x):Rel E v x:=by
 cases hc with
 |A6 e hb=>
  have:v.gV gV=v:=Hz v
  rw [e,this] at hr
  exact hr
 |XI h=>cases h
 |tok=>cases hr with
  |deep hd=>cases hd
  |EW _ _ _ a cap hk hd GN yX=>exact .deep hd
 |@rows t sz es ds h=>cases hr with
  |deep hd=>
   cases t with
   |some k=>cases hd
   |none=>exact .deep (hd.nd (.sl h))
  |EW _ _ _ a cap hk hd GN yX=>exact .deep (hd.nd (.sl h))
 |nil=>cases hr with
  |deep hd=>cases hd with
   |aV=>exact .deep (.mS _)
 |fK=>exact .fK x
theorem HA {E:Env} {u v:V} {x:Value} (hc:Sm gV ⟨0,0⟩ gA u v) (hr:Rel E u x):Rel E v x:=by
 rcases hc with hc|⟨cs,ds,rfl,rfl,hc⟩|⟨f,a,c,a',c',rfl,rfl,ha,hc⟩
 · exact FZ _ rfl hc hr
 · cases hr with
   |deep hd=>cases hd
   |agg _ xs hn h1 hr=>
    obtain ⟨c1,c2⟩:=hc.spec
    exact .agg _ _ (by omega) h1 fun j v x hj hx=>by
     obtain ⟨u,hu,hc⟩:=c2 j v hj
     exact FZ _ rfl hc (hr j u x hu hx)
 · cases hr with
   |deep hd=>cases hd
   |fn _ _ _ ya yc XK hnc HY O8=>
    obtain ⟨a1,a2⟩:=ha.spec
    obtain ⟨c1,c2⟩:=hc.spec
    exact .fn _ _ _ _ _ (by omega) (by omega) (fun j v x hj hx=>by
     obtain ⟨u,hu,hc⟩:=a2 j v hj
     exact FZ _ rfl hc (HY j u x hu hx)) (fun j v x hj hx=>by
     obtain ⟨u,hu,hc⟩:=c2 j v hj
     exact FZ _ rfl hc (O8 j u x hu hx))
theorem aB.less {P:Program} {f:Nat} {args args':List V} {h:aA} {K:V->aA->Prop} (hr:Zp args args') (h0:aB P f args' h K):aB P f args h K:=by
 refine ⟨h0.1,fun E w vs rX hs hv=>h0.2 E w vs rX hs ?_⟩
 obtain ⟨c1,c2⟩:=hr.spec
 refine ⟨by have:=hv.1;omega,fun j v x hj hx=>?_⟩
 obtain ⟨u,hu,hc⟩:=c2 j v hj
 exact HA hc (hv.2 j u x hu hx)
theorem Pure.call {P:Program} {f:Nat} {args args':List V} {Q:V->Prop} (h0:Pure P f args' Q) (hr:Zp args args') (ha:args'.all V.free=true) {h:aA} {K:V->aA->Prop} (hK:∀ u,Q u->K u h):aB P f args h K:=
 (h0.use ha fun u _ hq=>hK u hq).less hr
theorem Pure.DP {P:Program} {f:Nat} {args args':List V} {u:V} (h0:Pure P f args' (·=u)) (hr:Zp args args') (ha:args'.all V.free=true) {h:aA} {K:V->aA->Prop} (hK:K u h):aB P f args h K:=
 h0.call hr ha fun v hv=>hv▸hK
theorem Fm {v:V} (h:v.pB=true):v.free=true:=by
 cases v<;>first|exact h|simp [V.pB,V.flat] at h
theorem DQ {l:List V} (h:l.all V.pB=true):l.all V.free=true:=by
 rw [List.all_eq_true] at h ⊢
 exact fun x hx=>Fm (h x hx)
theorem Pure.go {P:Program} {f:Nat} {args:List V} {u:V} (h0:Pure P f args (·=u)) (ha:args.all V.pB=true) {h:aA} {K:V->aA->Prop} (hK:K u h):aB P f args h K:=
 h0.use (DQ ha) fun v _ hv=>hv▸hK
open Go
def V.OZ (n:Nat):V->V
 |.ms (.g 0) sz a c=>.ms (.g n) sz a c
 |v=>v
def V.up (n:Nat):V->V
 |.agg cs=>.agg (cs.map (V.OZ n))
 |v=>v.OZ n
def V.F0:V->Bool
 |.ms (.g 0) _ _ _=>true
 |v=>v.flat
def V.made:V->Bool
 |.agg cs=>cs.all V.F0
 |v=>v.F0
theorem F1 {E F:Env} {n:Nat} (hI:tC E.I F.I) (hn:F.has (.g n)) (hμ:F.μ (.g n)=E.μ (.g 0)) {v:V} {x:Value} (hv:v.F0=true) (hr:Rel E v x):Rel F (v.OZ n) x:=by
 unfold V.F0 at hv
 split at hv
 · cases hr with
   |deep hd=>cases hd
   |ms _ _ _ _ a cap hk hc hf hb ha=>
    exact .ms _ _ _ _ _ _ hn hc (by rw [hμ];exact hf) (by rw [hμ];exact hb) (by rw [hμ];exact ha)
 · rename_i h
   have:v.OZ n=v:=by
    unfold V.OZ
    split
    · exact absurd rfl (h _ _ _)
    · rfl
   rw [this]
   exact mY hI hv hr
theorem F2 {E F:Env} {n:Nat} (hI:tC E.I F.I) (hn:F.has (.g n)) (hμ:F.μ (.g n)=E.μ (.g 0)) {v:V} {x:Value} (hv:v.made=true) (hr:Rel E v x):Rel F (v.up n) x:=by
 unfold V.made at hv
 split at hv
 · rename_i cs
   simp only [List.all_eq_true] at hv
   cases hr with
   |deep hd=>cases hd
   |agg _ a ha h1 HY=>
    refine .agg _ _ (by simpa using ha) h1 fun j v x hj hx=>?_
    rw [List.getElem?_map] at hj
    cases hc:cs[j]? with
    |none=>rw [hc] at hj;cases hj
    |some u=>
     rw [hc] at hj
     cases hj
     exact F1 hI hn hμ (hv u (List.mem_of_getElem? hc)) (HY j u x hc hx)
 · rename_i h
   have:v.up n=v.OZ n:=by
    unfold V.up
    split
    · exact absurd rfl (h _)
    · rfl
   rw [this]
   exact F1 hI hn hμ hv hr
def A8 (sz:Nat) (es:List (List V)):aA:=⟨1,[(0,.arr sz es)]⟩
def A9 (Q:V->Nat->List (List V)->Prop) (v:V) (h':aA):Prop:=
 ∃ u sz es,Jg [(0,v)] (dG h') [(0,u)] (dG (A8 sz es))/\u.made=true/\(∀ e∈es,e.all V.flat=true)/\Q u sz es
theorem aB.made {P:Program} {f:Nat} {args:List V} {Q:V->Nat->List (List V)->Prop} (h0:aB P f args gZ (A9 Q)) (ha:args.all V.free=true) {h:aA} {K:V->aA->Prop}
 (hK:∀ u sz es,Q u sz es->K (u.up h.next) (h.push (.arr sz es))):aB P f args h K:=by
 refine ⟨h0.1,fun E w vs rX hs hv=>?_⟩
 simp only [List.all_eq_true] at ha
 let E0:Env:={ I:=E.I,μ:=E.μ,ng:=0,nl:=0 }
 have OX:b9 E0 (dG gZ) w:=⟨rfl,rfl,fun k hk=>absurd hk cB,hs.jL,fun k o hk=>absurd ⟨o,hk⟩ cB,fun k k' hk=>absurd hk cB,fun k hk=>absurd hk cB⟩
 have Mv:eI E0 args vs:=⟨hv.1,fun j v x hj hx=>uG (E:=E) (F:=E0) (fun b o x h=>h) (ha v (List.mem_of_getElem? hj)) (hv.2 j v x hj hx)⟩
 refine (h0.2 E0 w vs rfl OX Mv).mono ?_
 rintro e w' ⟨v,x,h',E1,⟨u,sz,es,ht,QO,FH,hq⟩,rfl,hn,xJ,Sn,H4⟩
 obtain ⟨E',yX,he,Cu⟩:=ht.ok rfl rfl xJ Sn
 have hr:=Cu 0 x H4
 have hr:Rel E' u x:=hr
 have C1:tC E.I E'.I:=he.le.jL
 have hng:h.next=E.ng:=hs.ng
 have eC:(dG (A8 sz es)).get (.g 0)=some (.arr sz es):=rfl
 have zJ:(dG (A8 sz es)).live (.g 0):=⟨_,eC⟩
 have hblk:w.heap.size<=(E'.μ (.g 0)).bL:=by
  rcases he.gM (.g 0) zJ (fun hk=>absurd hk (Nat.not_lt_zero _)) with h1|⟨k0,h1,_⟩
  · exact h1
  · exact absurd h1 cB
 have j6:∀ k,(dG h).live k->w'.heap[(E.μ k).bL]? =w.heap[(E.μ k).bL]? :=fun k hk=>he.same _ (hs.lt hk) fun k0 Lh=>absurd Lh cB
 let G:Env:={ I:=E'.I,μ:=fun k=>if k=.g h.next then E'.μ (.g 0) else E.μ k,ng:=h.next+1,nl:=E.nl }
 have zB:∀ k,E.has k->k≠.g h.next:=fun k hk e=>by
  subst e
  have:h.next<E.ng:=hk
  omega
 have hμ:∀ k,E.has k->G.μ k=E.μ k:=fun k hk=>if_neg (zB k hk)
 have hle:E.Le G:=⟨C1,by show E.ng<=h.next+1;omega,Nat.le_refl _,hμ⟩
 have fM:∀ k,(dG (h.push (.arr sz es))).get k=if k=.g h.next then some (.arr sz es) else (dG h).get k:=by
  intro k
  cases k with
  |g n=>
   show (h.push (.arr sz es)).get n=_
   rw [aA.j4]
   by_cases e:n=h.next
   · subst e;simp
   · rw [if_neg e,if_neg (fun e'=>e (by cases e';rfl))];rfl
  |l n=>simp [St.get]
 have eE:∀ k,(dG (h.push (.arr sz es))).live k->k=.g h.next\/((dG h).live k/\k≠.g h.next):=by
  rintro k ⟨o,ho⟩
  rw [fM] at ho
  split at ho
  · rename_i e;exact .inl e
  · rename_i e;exact .inr ⟨⟨o,ho⟩,e⟩
 have hG:G.μ (.g h.next)=E'.μ (.g 0):=if_pos rfl
 refine ⟨u.up h.next,x,h.push (.arr sz es),G,hK u sz es hq,rfl,rX,⟨rfl,hs.nl,fun k hk=>?_,yX.jL,fun k o hk=>?_,fun k k' hk hZ dM=>?_,fun k hk j h1 h2=>?_⟩,
  ⟨hle,he.size,fun b o x hx=>?_,fun k hk hn=>?_,fun k hk hn=>?_,fun b hb _=>he.same b hb fun k hk=>absurd hk cB,he.os,he.out,he.tape⟩,F2 (E:=E') (F:=G) (n:=h.next) (fun b o x h=>h) (Nat.lt_succ_self _) hG QO hr⟩
 · rcases eE k hk with rfl|⟨hk,_⟩
   · show h.next<h.next+1;omega
   · exact hle.has (hs.jM k hk)
 · rw [fM] at hk
   split at hk
   · rename_i e
     subst e
     cases hk
     have:=yX.obj _ _ eC
     rw [hG]
     obtain ⟨hl,cells,t,fz,r1,r2,r3,r4,r5⟩:=this
     refine ⟨hl,cells,t,fz,r1,r2,r3,r4,fun j v hj=>?_⟩
     obtain ⟨x,hx,vM,h1⟩:=r5 j v hj
     refine ⟨x,hx,mY (E:=E'.at (.g 0)) (F:=G.at (.g h.next)) (fun b o x h=>h) ?_ vM,h1⟩
     have hm:=List.mem_of_getElem? hj
     obtain ⟨l,Sr,rW⟩:=List.mem_flatten.1 hm
     exact List.all_eq_true.1 (FH l Sr) v rW
   · have Ss:(dG h).live k:=⟨o,hk⟩
     rw [hμ k (hs.jM k Ss)]
     exact (hs.obj k o hk).eK (Env.iJ hle k) (j6 k Ss)
 · rcases eE k hk with rfl|⟨h1,e1⟩
   · rcases eE k' hZ with rfl|⟨h2,e2⟩
     · exact absurd rfl dM
     · rw [hG,hμ k' (hs.jM k' h2)]
       have:=hs.lt h2
       omega
   · rcases eE k' hZ with rfl|⟨h2,e2⟩
     · rw [hG,hμ k (hs.jM k h1)]
       have:=hs.lt h1
       omega
     · rw [hμ k (hs.jM k h1),hμ k' (hs.jM k' h2)]
       exact hs.sep k k' h1 h2 dM
 · rcases eE k hk with rfl|⟨hk,_⟩
   · rw [hG] at h1 h2 ⊢
     exact yX.own _ zJ j h1 h2
   · rw [hμ k (hs.jM k hk)] at h1 h2 ⊢
     show E'.I (E.μ k).bL j=none
     cases hx:E'.I (E.μ k).bL j with
     |none=>rfl
     |some y=>
      rcases he.fF _ _ _ hx with h3|h3|⟨k0,h3,_⟩
      · have:=hs.own k hk j h1 h2
        rw [show E0.I=E.I from rfl,this] at h3
        cases h3
      · have:=hs.lt hk
        omega
      · exact absurd h3 cB
 · rcases he.fF b o x hx with h1|h1|⟨k0,h1,_⟩
   · exact .inl h1
   · exact .inr (.inl h1)
   · exact absurd h1 cB
 · rcases eE k hk with rfl|⟨h1,_⟩
   · exact absurd rfl (zB _ hn)
   · exact h1
 · rcases eE k hk with rfl|⟨h1,_⟩
   · rw [hG];exact .inl hblk
   · exact absurd (hs.jM k h1) hn
open Go
theorem DR {E F:Env} {n:Nat} (hI:tC F.I E.I) (hn:E.has (.g 0)) (hμ:E.μ (.g 0)=F.μ (.g n)) {v:V} {x:Value} (hv:v.F0=true) (hr:Rel F (v.OZ n) x):Rel E v x:=by
 unfold V.F0 at hv
 split at hv
 · simp only [V.OZ] at hr
   cases hr with
   |deep hd=>cases hd
   |ms _ _ _ _ a cap hk hc hf hb ha=>
    exact .ms _ _ _ _ _ _ hn hc (by rw [hμ];exact hf) (by rw [hμ];exact hb) (by rw [hμ];exact ha)
 · rename_i h
   have:v.OZ n=v:=by
    unfold V.OZ
    split
    · exact absurd rfl (h _ _ _)
    · rfl
   rw [this] at hr
   exact mY hI hv hr
theorem Lo {E F:Env} {n:Nat} (hI:tC F.I E.I) (hn:E.has (.g 0)) (hμ:E.μ (.g 0)=F.μ (.g n)) {v:V} {x:Value} (hv:v.made=true) (hr:Rel F (v.up n) x):Rel E v x:=by
 unfold V.made at hv
 split at hv
 · rename_i cs
   simp only [List.all_eq_true] at hv
   simp only [V.up] at hr
   cases hr with
   |deep hd=>cases hd
   |agg _ a ha h1 HY=>
    refine .agg _ _ (by simpa using ha) h1 fun j v x hj hx=>?_
    exact DR hI hn hμ (hv v (List.mem_of_getElem? hj)) (HY j (v.OZ n) x (by rw [List.getElem?_map,hj];rfl) hx)
 · rename_i h
   have:v.up n=v.OZ n:=by
    unfold V.up
    split
    · exact absurd rfl (h _)
    · rfl
   rw [this] at hr
   exact DR hI hn hμ hv hr
theorem DS {E F:Env} (hI:tC E.I F.I) {w:World} {L:Loc} {sz:Nat} {es:List (List V)} (hf:∀ e∈es,e.all V.flat=true) (h:Holds E w L (.arr sz es)):Holds F w L (.arr sz es):=by
 obtain ⟨hl,cells,t,fz,r1,r2,r3,r4,r5⟩:=h
 refine ⟨hl,cells,t,fz,r1,r2,r3,r4,fun j v hj=>?_⟩
 obtain ⟨x,hx,vM,h1⟩:=r5 j v hj
 refine ⟨x,hx,mY hI ?_ vM,h1⟩
 have hm:=List.mem_of_getElem? hj
 obtain ⟨l,Sr,rW⟩:=List.mem_flatten.1 hm
 exact List.all_eq_true.1 (hf l Sr) v rW
theorem Jj {sz:Nat} {es:List (List V)} {k:Key} {o:Obj} (h:(dG (A8 sz es)).get k=some o):k=.g 0/\o=.arr sz es:=by
 cases k with
 |g n=>
  by_cases hn:n=0
  · subst hn;cases h;exact ⟨rfl,rfl⟩
  · exfalso
    have:(A8 sz es).get n=some o:=h
    simp [A8,aA.get,aA.find,Ne.symm hn] at this
 |l n=>simp [St.get,Ia,aA.get,aA.find] at h
def Ba (sz:Nat) (Q:V->List (List V)->Prop) (v:V) (h':aA):Prop:=
 ∃ u es,yK 1 [(0,v)] (dG h') [(0,u)] (dG (A8 sz es))/\u.made=true/\(∀ e∈es,e.all V.flat=true)/\Q u es
theorem Ba.of {Q:V->List (List V)->Prop} {v u:V} {sz:Nat} {es:List (List V)} {h':aA} (ht:yK 1 [(0,v)] (dG h') [(0,u)] ⟨⟨1,[(0,.arr sz es)]⟩,⟨0,[]⟩⟩) (hu:u.made=true) (hf:∀ e∈es,e.all V.flat=true) (hq:Q u es):Ba sz Q v h':=⟨u,es,ht,hu,hf,hq⟩
theorem aB.aeH {P:Program} {f:Nat} {args:List V} {sz:Nat} {Wh:List (List V)} {Q:V->List (List V)->Prop} (h0:aB P f args (A8 sz Wh) (Ba sz Q)) (ha:args.all V.made=true) (GY:∀ e∈Wh,e.all V.flat=true)
 {h:aA} {k:Nat} (hk:h.get k=some (.arr sz Wh)) {K:V->aA->Prop} (hK:∀ u es,Q u es->K (u.up k) (h.set k (.arr sz es))):aB P f (args.map (V.up k)) h K:=by
 refine ⟨h0.1,fun E w vs rX hs hv=>?_⟩
 simp only [List.all_eq_true] at ha
 have eC:(dG h).get (.g k)=some (.arr sz Wh):=hk
 have FC:(dG h).live (.g k):=⟨_,eC⟩
 let E0:Env:={ I:=E.I,μ:=fun _=>E.μ (.g k),ng:=1,nl:=0 }
 have zJ:∀ k0,(dG (A8 sz Wh)).live k0->k0=.g 0:=fun k0 ⟨o,ho⟩=>(Jj ho).1
 have OX:b9 E0 (dG (A8 sz Wh)) w:=by
  refine ⟨rfl,rfl,fun k0 h1=>?_,hs.jL,fun k0 o ho=>?_,fun k0 k1 h1 h2 dM=>?_,fun k0 h1 j h2 h3=>?_⟩
  · rw [zJ k0 h1];exact Nat.zero_lt_one
  · obtain ⟨rfl,rfl⟩:=Jj ho
    exact DS (E:=E.at (.g k)) (F:=E0.at (.g 0)) (fun b o x h=>h) GY (hs.obj _ _ eC)
  · exact absurd ((zJ k0 h1).trans (zJ k1 h2).symm) dM
  · exact hs.own _ FC j h2 h3
 have Mv:eI E0 args vs:=by
  refine ⟨by simpa using hv.1,fun j v x hj hx=>?_⟩
  exact Lo (E:=E0) (F:=E) (n:=k) (fun b o x h=>h) Nat.zero_lt_one rfl (ha v (List.mem_of_getElem? hj)) (hv.2 j (v.up k) x (by rw [List.getElem?_map,hj];rfl) hx)
 refine (h0.2 E0 w vs rfl OX Mv).mono ?_
 rintro e w' ⟨v,x,h',E1,⟨u,es,ht,QO,FH,hq⟩,rfl,hn,xJ,Sn,H4⟩
 obtain ⟨E',yX,he,Cu⟩:=ht.ok rfl rfl xJ Sn
 have hr:Rel E' u x:=Cu 0 x H4
 have C1:tC E.I E'.I:=he.le.jL
 have Wi:E'.μ (.g 0)=E.μ (.g k):=he.le.loc (.g 0) Nat.zero_lt_one
 have xW:∀ k',(dG h).live k'->k'≠.g k->∀ k0,(dG (A8 sz Wh)).live k0->(E0.μ k0).bL≠(E.μ k').bL:=fun k' h1 h2 k0 h3=>hs.sep _ _ FC h1 (Ne.symm h2)
 have j6:∀ k',(dG h).live k'->k'≠.g k->w'.heap[(E.μ k').bL]? =w.heap[(E.μ k').bL]? :=fun k' h1 h2=>he.same _ (hs.lt h1) (xW k' h1 h2)
 let G:Env:={ I:=E'.I,μ:=E.μ,ng:=E.ng,nl:=E.nl }
 have hle:E.Le G:=⟨C1,Nat.le_refl _,Nat.le_refl _,fun _ _=>rfl⟩
 have fM:∀ k',(dG (h.set k (.arr sz es))).get k'=if k'=.g k then some (.arr sz es) else (dG h).get k':=by
  intro k'
  cases k' with
  |g n=>
   show (h.set k (.arr sz es)).get n=_
   rw [aA.vK]
   by_cases e:n=k
   · subst e;simp [hk]
   · rw [if_neg e,if_neg (fun e'=>e (by cases e';rfl))];rfl
  |l n=>simp [St.get]
 have eE:∀ k',(dG (h.set k (.arr sz es))).live k'->(dG h).live k':=by
  rintro k' ⟨o,ho⟩
  rw [fM] at ho
  split at ho
  · rename_i e;rw [e];exact FC
  · exact ⟨o,ho⟩
 have Zq:(dG (A8 sz es)).get (.g 0)=some (.arr sz es):=rfl
 refine ⟨u.up k,x,h.set k (.arr sz es),G,hK u es hq,rfl,rX,⟨hs.ng,hs.nl,fun k' h1=>hs.jM k' (eE k' h1),yX.jL,fun k' o h1=>?_,fun k' k2 h1 h2 dM=>hs.sep k' k2 (eE k' h1) (eE k2 h2) dM,fun k' h1 j h2 h3=>?_⟩,
  ⟨hle,he.size,fun b o x hx=>?_,fun k' h1 _=>eE k' h1,fun k' h1 hn=>absurd (hs.jM k' (eE k' h1)) hn,fun b hb nY=>he.same b hb fun k0 h1=>nY (.g k) FC,he.os,he.out,he.tape⟩,
  F2 (E:=E') (F:=G) (n:=k) (fun b o x h=>h) (hs.jM _ FC) Wi.symm QO hr⟩
 · rw [fM] at h1
   split at h1
   · rename_i e
     subst e
     cases h1
     have h2:=yX.obj _ _ Zq
     rw [Wi] at h2
     exact DS (E:=E'.at (.g 0)) (F:=G.at (.g k)) (fun b o x h=>h) FH h2
   · rename_i dM
     have Ss:(dG h).live k':=⟨o,h1⟩
     exact (hs.obj k' o h1).eK (Env.iJ hle k') (j6 k' Ss dM)
 · have Vw:=eE k' h1
   by_cases yY:k'=.g k
   · subst yY
     have:=yX.own (.g 0) ⟨_,Zq⟩ j
     rw [Wi] at this
     exact this h2 h3
   · show E'.I (E.μ k').bL j=none
     cases hx:E'.I (E.μ k').bL j with
     |none=>rfl
     |some y=>
      rcases he.fF _ _ _ hx with h4|h4|⟨k0,h4,h5⟩
      · have:=hs.own k' Vw j h2 h3
        rw [show E0.I=E.I from rfl,this] at h4
        cases h4
      · have:=hs.lt Vw
        omega
      · exact absurd h5 (xW k' Vw yY k0 h4)
 · rcases he.fF b o x hx with h1|h1|⟨k0,h1,h2⟩
   · exact .inl h1
   · exact .inr (.inl h1)
   · exact .inr (.inr ⟨.g k,FC,h2⟩)
theorem Ts {h:aA} {r:Nat} {o o':Obj} (hr:h.get r=some o) (k':Key):(dG (h.set r o')).get k'=if k'=.g r then some o' else (dG h).get k':=by
 cases k' with
 |g n=>
  show (h.set r o').get n=_
  rw [aA.vK]
  by_cases e:n=r
  · subst e;simp [hr]
  · rw [if_neg e,if_neg (fun e'=>e (by cases e';rfl))];rfl
 |l n=>simp [St.get]
theorem aB.shrink {P:Program} {f:Nat} {args:List V} {h:aA} {r sz:Nat} {K:V->aA->Prop} (h0:aB P f args h (fun v h'=>∃ es m,h'.get r=some (.arr sz es)/\K v (h'.set r (.arr sz (es.take m))))):aB P f args h K:=by
 refine ⟨h0.1,fun E w vs rX hs hv=>(h0.2 E w vs rX hs hv).mono ?_⟩
 rintro e w' ⟨v,x,h',E',⟨es,m,hr,hk⟩,rfl,hn,yX,he,gI⟩
 have eC:(dG h').get (.g r)=some (.arr sz es):=hr
 have fM:=Ts (o':=.arr sz (es.take m)) hr
 have eE:∀ k',(dG (h'.set r (.arr sz (es.take m)))).live k'->(dG h').live k':=by
  rintro k' ⟨o,ho⟩
  rw [fM] at ho
  split at ho
  · rename_i e;rw [e];exact ⟨_,eC⟩
  · exact ⟨o,ho⟩
 refine ⟨v,x,h'.set r (.arr sz (es.take m)),E',hk,rfl,hn,⟨yX.ng,yX.nl,fun k' h1=>yX.jM k' (eE k' h1),yX.jL,fun k' o h1=>?_,fun k' k2 h1 h2 dM=>yX.sep k' k2 (eE k' h1) (eE k2 h2) dM,fun k' h1=>yX.own k' (eE k' h1)⟩,
  ⟨he.le,he.size,he.fF,fun k' h1 h2=>he.gD k' (eE k' h1) h2,fun k' h1 h2=>he.gM k' (eE k' h1) h2,he.same,he.os,he.out,he.tape⟩,gI⟩
 rw [fM] at h1
 split at h1
 · rename_i e
   subst e
   cases h1
   obtain ⟨hl,cells,t,fz,r1,r2,r3,r4,r5⟩:=yX.obj _ _ eC
   have vL:es.flatten=(es.take m).flatten++(es.drop m).flatten:=by rw [<-List.flatten_append,List.take_append_drop]
   refine ⟨fun e he=>hl e (List.mem_of_mem_take he),cells,t,fz,r1,r2,?_,r4,fun j v hj=>r5 j v ?_⟩
   · rw [vL,List.length_append] at r3
     omega
   · rw [vL,List.getElem?_append_left (List.getElem?_eq_some_iff.1 hj).1]
     exact hj
 · exact yX.obj k' o h1
open Go
abbrev aU:=List UInt8
structure dE where
 key:aU
 val:aU
 deriving DecidableEq
structure cM where
 key:aU
 kind:Int
 bF:List aU
 deriving DecidableEq
structure j8 where
 key:aU
 val:aU
 any:Bool
 deriving DecidableEq
structure hU where
 a:Int
 b:Int
 c:Int
 deriving DecidableEq
structure aO where
 name:aU
 uid:Int
 prio:Int
 gG:hU
 aX:List Int
 labels:List dE
 lR:List cM
 b8:List j8
 dV:aU
 cT:List cM
 j9:Int
 even:List cM
 node:aU
 term:Int
 deriving DecidableEq
structure cI where
 name:aU
 cap:hU
 labels:List dE
 eW:List dE
 deriving DecidableEq
structure eG where
 nodes:List cI
 aF:List aO
 deriving DecidableEq
def bG (s:aU):List V:=[.s s]
def fV (n:Int):List V:=[.i .i64 n]
def bJ (p:dE):List V:=[.s p.key,.s p.val]
def bD (t:cM):List V:=[.s t.key,.i .i64 t.kind,.sl none 1 (t.bF.map bG)]
def eO (t:j8):List V:=[.s t.key,.s t.val,.b t.any]
def yL (r:hU):List V:=[.i .i64 r.a,.i .i64 r.b,.i .i64 r.c]
def aJ (p:aO):List V:=[.s p.name,.i .i64 p.uid,.i .i64 p.prio,.i .i64 p.gG.a,.i .i64 p.gG.b,.i .i64 p.gG.c,.sl none 1 (p.aX.map fV),.sl none 2 (p.labels.map bJ),
 .sl none 3 (p.lR.map bD),.sl none 3 (p.b8.map eO),.s p.dV,.sl none 3 (p.cT.map bD),.i .i64 p.j9,.sl none 3 (p.even.map bD),.s p.node,.i .i64 p.term]
def aS (n:cI):List V:=[.s n.name,.i .i64 n.cap.a,.i .i64 n.cap.b,.i .i64 n.cap.c,.sl none 2 (n.labels.map bJ),.sl none 2 (n.eW.map bJ)]
def lT (s:eG):V:=.agg [.sl none 6 (s.nodes.map aS),.sl none 16 (s.aF.map aJ)]
theorem HB {α β:Type} {f:α->β} {l:List α} {i:Nat} {x:α} (h:l[i]? =some x):(l.map f)[i]? =some (f x):=by rw [List.getElem?_map,h];rfl
theorem aG {α β:Type} {f:α->β} {l:List α} {i j:Nat} {x:α} (e:j=i) (h:l[i]? =some x):(l.map f)[j]? =some (f x):=by subst e;exact HB h
theorem fP {α:Type} {R:α->List V} (h:∀ x,pW (R x)=some (R x)):∀ l:List α,dR (l.map R)=some (l.map R)
 |[]=>rfl
 |x::r=>by simp only [List.map_cons,dR,h x,fP h r]
theorem cG {α:Type} {l:List α} {i:Nat} {x:α} (h:l[i]? =some x):l.take (i+1)=l.take i++[x]:=by rw [List.take_add_one,h];rfl
def cS {α:Type} (p:α->Bool) (l:List α) (i:Nat):Prop:=∀ (j:Nat) (e:α),j<i->l[j]? =some e->p e=false
section
variable {α:Type} {p:α->Bool} {l:List α} {i:Nat} {e:α}
theorem cS.zero:cS p l 0:=fun _ _ h=>absurd h (Nat.not_lt_zero _)
theorem cS.succ (h:cS p l i) (he:l[i]? =some e) (hp:p e=false):cS p l (i+1):=fun j x hj hx=>by
 by_cases xF:j<i
 · exact h j x xF hx
 · obtain rfl:j=i:=by omega
   rw [he] at hx;cases hx;exact hp
theorem cS.all (h:cS p l i) (hi:l.length<=i):∀ x∈l,p x=false:=fun x hx=>by
 obtain ⟨j,hj⟩:=List.mem_iff_getElem?.1 hx
 exact h j x (by have:=(List.getElem?_eq_some_iff.1 hj).1;omega) hj
theorem nZ (he:l[i]? =some e) (hp:p e=true) (h:cS p l i):l.find? p=some e:=by
 rw [List.find?_eq_some_iff_getElem]
 obtain ⟨h1,rfl⟩:=List.getElem?_eq_some_iff.1 he
 exact ⟨hp,i,h1,rfl,fun j hj=>by simpa using h j _ hj (List.getElem?_eq_getElem (by omega))⟩
theorem oC (h:∀ x∈l,p x=false):l.find? p=none:=by
 rw [List.find?_eq_none]
 intro x hx
 simp [h x hx]
theorem any_some (he:l[i]? =some e) (hp:p e=true):l.any p=true:=List.any_eq_true.2 ⟨e,List.mem_of_getElem? he,hp⟩
theorem any_none (h:∀ x∈l,p x=false):l.any p=false:=by
 rw [List.any_eq_false]
 intro x hx
 simp [h x hx]
end
section
variable {X Y:Prop}
theorem cA {A:bS} {f:Nat} {l:List V} {h:aA} {K:V->aA->Prop} (g:X->A f l h K) (x:X):cY A f l h K:=⟨g x⟩
theorem yf {c:Bool} (h:c=false) (y:Y):aH c X Y:=.ff h y
theorem yt {c:Bool} (h:c=true) (x:X):aH c X Y:=.tt h x
theorem yo {β:Type} {o:Option β} {n:Prop} {k:β->Prop} {x:β} (h:o=some x) (hk:k x):aZ o n k:=.of h hk
theorem yn {β:Type} {o:Option β} {n:Prop} {k:β->Prop} (h:o=none) (hn:n):aZ o n k:=.no h hn
theorem ye {β:Type} {o:Option β} {k:β->Prop} {x:β} (h:o=some x) (hk:k x):cD o k:=.of h hk
theorem yc {c:Bool} (h:c=true) (x:X):aK c X:=⟨h,x⟩
theorem ys {v u:V} (h:v=u) (x:X):aP v u X:=⟨h,x⟩
theorem zdt {p:Prop} [Decidable p] (x:X) (h:p:=by omega):aH (decide p) X Y:=.dt h x
theorem zdf {p:Prop} [Decidable p] (y:Y) (h:¬p:=by omega):aH (decide p) X Y:=.df h y
theorem znt {p:Prop} [Decidable p] (x:X) (h:¬p:=by omega):aH (!decide p) X Y:=.nt h x
theorem znf {p:Prop} [Decidable p] (y:Y) (h:p:=by omega):aH (!decide p) X Y:=.nf h y
theorem zcd {p:Prop} [Decidable p] (k:X) (h:p:=by omega):aK (decide p) X:=.d h k
theorem zc3 {p q r:Prop} [Decidable p] [Decidable q] [Decidable r] (k:X) (h:p:=by omega) (h':q:=by omega) (h2:r:=by omega):aK (decide p&&decide q&&decide r) X:=.d3 h h' h2 k
theorem zci {i:Int} {n:Nat} (k:X) (h:0<=i:=by omega) (h':i<n:=by omega):aK (pY i n) X:=.ix h h' k
theorem zw {n:Int} {k:Int->Prop} (hk:k n) (h1:-9223372036854775808<=n:=by omega) (h2:n<=9223372036854775807:=by omega):aQ .i64 n k:=.gS h1 h2 hk
end
theorem zz {X Y:Prop} (y:Y) (h:Y->X:=by first|exact yf rfl|exact yt rfl|exact yo rfl|exact yc rfl|exact ys rfl|exact ye rfl|exact yn rfl|exact fun y=>zw y|exact fun y=>zdt y|exact fun y=>zdf y|exact fun y=>znt y|exact fun y=>znf y|exact fun y=>zcd y|exact fun y=>zci y|exact fun y=>zc3 y):X:=h y
theorem Wj {cs ds:List V} (h:Zp cs ds:=by ((repeat (first|exact trivial|refine ⟨by first|exact rG rfl|exact .inl .nil|exact .inl .tok|exact .inl (.rows (by ((repeat (first|exact .nil|refine .cons (by ((repeat (first|exact .nil|refine .cons (by first|exact .refl _|exact .nil _) ?_));first|done|fail)) ?_));first|done|fail)))|exact .inr (.inl ⟨_,_,rfl,rfl,(by ((repeat (first|exact trivial|refine ⟨by first|exact iM rfl|exact .nil|exact .tok|exact .A6 rfl (Nat.le_of_ble_eq_true rfl)|exact .rows (by ((repeat (first|exact .nil|refine .cons (by ((repeat (first|exact .nil|refine .cons (by first|exact .refl _|exact .nil _) ?_));first|done|fail)) ?_));first|done|fail)),?_⟩));first|done|fail))⟩),?_⟩));first|done|fail)):Zp cs ds:=h
structure Bx (q:Prop):Prop where
 h:q
section
variable {a b c d e f g i p q:Prop}
theorem QP (u1:a) (u2:b) (u3:c) (u4:d) (u5:e) (u6:f) (u7:g) (u8:i) (h:q) (z:a->b->c->d->e->f->g->i->Bx q->p:=by (intro u1 u2 u3 u4 u5 u6 u7 u8 hq;(conv=>whnf);(repeat ((first|refine cD.of (by first|exact u1 ..|exact u2 ..|exact u3 ..|exact u4 ..|exact u5 ..|exact u6 ..|exact u7 ..|exact u8 ..|exact aG (by omega) u1|exact aG (by simp) u1|exact aG (by omega) u2|exact aG (by simp) u2|exact aG (by omega) u3|exact aG (by simp) u3|exact aG (by omega) u4|exact aG (by simp) u4|exact aG (by omega) u5|exact aG (by simp) u5|exact aG (by omega) u6|exact aG (by simp) u6|exact aG (by omega) u7|exact aG (by simp) u7|exact aG (by omega) u8|exact aG (by simp) u8) ?_|refine cY.app (fun x=>by first|(apply u1;exact x)|exact Pure.go u1 rfl x|exact Pure.any u1 rfl x|exact Pure.DP u1 Wj rfl x|(apply u2;exact x)|exact Pure.go u2 rfl x|exact Pure.any u2 rfl x|(apply u3;exact x)|exact Pure.go u3 rfl x|exact Pure.any u3 rfl x|(apply u4;exact x)|exact Pure.go u4 rfl x|exact Pure.any u4 rfl x|(apply u5;exact x)|exact Pure.go u5 rfl x|exact Pure.any u5 rfl x|(apply u6;exact x)|exact Pure.go u6 rfl x|exact Pure.any u6 rfl x|(apply u7;exact x)|exact Pure.go u7 rfl x|exact Pure.any u7 rfl x|(apply u8;exact x)|exact Pure.go u8 rfl x|exact Pure.any u8 rfl x) ?_|refine aH.tt (by first|exact u1 ..|exact u2 ..|exact u3 ..|exact u4 ..|exact u5 ..|exact u6 ..|exact u7 ..|exact u8 ..) ?_|refine aH.ff (by first|exact u1 ..|exact u2 ..|exact u3 ..|exact u4 ..|exact u5 ..|exact u6 ..|exact u7 ..|exact u8 ..) ?_|refine aH.dt (by first|exact u1 ..|exact u2 ..|exact u3 ..|exact u4 ..|exact u5 ..|exact u6 ..|exact u7 ..|exact u8 ..) ?_|refine aH.df (by first|exact u1 ..|exact u2 ..|exact u3 ..|exact u4 ..|exact u5 ..|exact u6 ..|exact u7 ..|exact u8 ..) ?_|refine aH.nt (by first|exact u1 ..|exact u2 ..|exact u3 ..|exact u4 ..|exact u5 ..|exact u6 ..|exact u7 ..|exact u8 ..) ?_|refine aH.nf (by first|exact u1 ..|exact u2 ..|exact u3 ..|exact u4 ..|exact u5 ..|exact u6 ..|exact u7 ..|exact u8 ..) ?_|refine aK.mk (by first|exact u1 ..|exact u2 ..|exact u3 ..|exact u4 ..|exact u5 ..|exact u6 ..|exact u7 ..|exact u8 ..) ?_|refine aZ.of (by first|exact u1 ..|exact u2 ..|exact u3 ..|exact u4 ..|exact u5 ..|exact u6 ..|exact u7 ..|exact u8 ..) ?_|refine aZ.no (by first|exact u1 ..|exact u2 ..|exact u3 ..|exact u4 ..|exact u5 ..|exact u6 ..|exact u7 ..|exact u8 ..) ?_|refine aP.mk (by first|exact u1 ..|exact u2 ..|exact u3 ..|exact u4 ..|exact u5 ..|exact u6 ..|exact u7 ..|exact u8 ..) ?_|refine zz ?_)<;>(conv=>whnf)));exact hq.1)):p:=z u1 u2 u3 u4 u5 u6 u7 u8 ⟨h⟩
theorem UX (u1:a) (u2:b) (u3:c) (u4:d) (u5:e) (u6:f) (u7:g) (u8:i) (h:q) (z:a->b->c->d->e->f->g->i->Bx q->p:=by (intro u1 u2 u3 u4 u5 u6 u7 u8 hq;(conv=>whnf);(repeat ((first|refine cD.of (by first|exact u1 ..|exact u2 ..|exact u3 ..|exact u4 ..|exact u5 ..|exact u6 ..|exact u7 ..|exact u8 ..|exact aG (by omega) u1|exact aG (by simp) u1|exact aG (by omega) u2|exact aG (by simp) u2|exact aG (by omega) u3|exact aG (by simp) u3|exact aG (by omega) u4|exact aG (by simp) u4|exact aG (by omega) u5|exact aG (by simp) u5|exact aG (by omega) u6|exact aG (by simp) u6|exact aG (by omega) u7|exact aG (by simp) u7|exact aG (by omega) u8|exact aG (by simp) u8) ?_|refine cY.app (fun x=>by first|(apply u1;exact x)|exact Pure.go u1 rfl x|exact Pure.any u1 rfl x|exact Pure.DP u1 Wj rfl x|(apply u2;exact x)|exact Pure.go u2 rfl x|exact Pure.any u2 rfl x|(apply u3;exact x)|exact Pure.go u3 rfl x|exact Pure.any u3 rfl x|(apply u4;exact x)|exact Pure.go u4 rfl x|exact Pure.any u4 rfl x|(apply u5;exact x)|exact Pure.go u5 rfl x|exact Pure.any u5 rfl x|(apply u6;exact x)|exact Pure.go u6 rfl x|exact Pure.any u6 rfl x|(apply u7;exact x)|exact Pure.go u7 rfl x|exact Pure.any u7 rfl x|(apply u8;exact x)|exact Pure.go u8 rfl x|exact Pure.any u8 rfl x) ?_|refine aH.tt (by first|exact u1 ..|exact u2 ..|exact u3 ..|exact u4 ..|exact u5 ..|exact u6 ..|exact u7 ..|exact u8 ..) ?_|refine aH.ff (by first|exact u1 ..|exact u2 ..|exact u3 ..|exact u4 ..|exact u5 ..|exact u6 ..|exact u7 ..|exact u8 ..) ?_|refine aH.dt (by first|exact u1 ..|exact u2 ..|exact u3 ..|exact u4 ..|exact u5 ..|exact u6 ..|exact u7 ..|exact u8 ..) ?_|refine aH.df (by first|exact u1 ..|exact u2 ..|exact u3 ..|exact u4 ..|exact u5 ..|exact u6 ..|exact u7 ..|exact u8 ..) ?_|refine aH.nt (by first|exact u1 ..|exact u2 ..|exact u3 ..|exact u4 ..|exact u5 ..|exact u6 ..|exact u7 ..|exact u8 ..) ?_|refine aH.nf (by first|exact u1 ..|exact u2 ..|exact u3 ..|exact u4 ..|exact u5 ..|exact u6 ..|exact u7 ..|exact u8 ..) ?_|refine aK.mk (by first|exact u1 ..|exact u2 ..|exact u3 ..|exact u4 ..|exact u5 ..|exact u6 ..|exact u7 ..|exact u8 ..) ?_|refine aZ.of (by first|exact u1 ..|exact u2 ..|exact u3 ..|exact u4 ..|exact u5 ..|exact u6 ..|exact u7 ..|exact u8 ..) ?_|refine aZ.no (by first|exact u1 ..|exact u2 ..|exact u3 ..|exact u4 ..|exact u5 ..|exact u6 ..|exact u7 ..|exact u8 ..) ?_|refine aP.mk (by first|exact u1 ..|exact u2 ..|exact u3 ..|exact u4 ..|exact u5 ..|exact u6 ..|exact u7 ..|exact u8 ..) ?_|refine cY.app (fun x=>by first|exact jU (u1 _ _ rfl) rfl x|exact jU (u2 _ _ rfl) rfl x|exact jU (u3 _ _ rfl) rfl x|exact jU (u4 _ _ rfl) rfl x|exact jU (u5 _ _ rfl) rfl x|exact jU (u6 _ _ rfl) rfl x|exact jU (u7 _ _ rfl) rfl x|exact jU (u8 _ _ rfl) rfl x) ?_|refine zz ?_|refine aQ.wu (by omega) (by omega) ?_|refine aQ.of (by decide) (by decide) ?_|refine aH.tt (decide_eq_true rfl) ?_|refine cD.of (aA.aD (aA.aC _ _)) ?_|refine aK.mk (by simp [bR];omega) ?_|refine aH.dt (by simp only [List.length_map,List.length_cons,List.length_nil,List.length_append];omega) ?_|refine aH.df (by simp only [List.length_map,List.length_cons,List.length_nil,List.length_append];omega) ?_)<;>(conv=>whnf)));exact hq.1)):p:=z u1 u2 u3 u4 u5 u6 u7 u8 ⟨h⟩
theorem zx7 (u1:a) (u2:b) (u3:c) (u4:d) (u5:e) (u6:f) (u7:g) (h:q) (z:a->b->c->d->e->f->g->Bx q->p:=by exact fun u1 u2 u3 u4 u5 u6 u7 h=>UX u1 u2 u3 u4 u5 u6 u7 trivial h.1):p:=z u1 u2 u3 u4 u5 u6 u7 ⟨h⟩
theorem zx6 (u1:a) (u2:b) (u3:c) (u4:d) (u5:e) (u6:f) (h:q) (z:a->b->c->d->e->f->Bx q->p:=by exact fun u1 u2 u3 u4 u5 u6 h=>UX u1 u2 u3 u4 u5 u6 trivial trivial h.1):p:=z u1 u2 u3 u4 u5 u6 ⟨h⟩
theorem zx5 (u1:a) (u2:b) (u3:c) (u4:d) (u5:e) (h:q) (z:a->b->c->d->e->Bx q->p:=by exact fun u1 u2 u3 u4 u5 h=>UX u1 u2 u3 u4 u5 trivial trivial trivial h.1):p:=z u1 u2 u3 u4 u5 ⟨h⟩
theorem zx4 (u1:a) (u2:b) (u3:c) (u4:d) (h:q) (z:a->b->c->d->Bx q->p:=by exact fun u1 u2 u3 u4 h=>UX u1 u2 u3 u4 trivial trivial trivial trivial h.1):p:=z u1 u2 u3 u4 ⟨h⟩
theorem zx3 (u1:a) (u2:b) (u3:c) (h:q) (z:a->b->c->Bx q->p:=by exact fun u1 u2 u3 h=>UX u1 u2 u3 trivial trivial trivial trivial trivial h.1):p:=z u1 u2 u3 ⟨h⟩
theorem XL (u1:a) (u2:b) (h:q) (z:a->b->Bx q->p:=by exact fun u1 u2 h=>UX u1 u2 trivial trivial trivial trivial trivial trivial h.1):p:=z u1 u2 ⟨h⟩
theorem zx1 (u1:a) (h:q) (z:a->Bx q->p:=by exact fun u1 h=>UX u1 trivial trivial trivial trivial trivial trivial trivial h.1):p:=z u1 ⟨h⟩
theorem zx0 (h:q) (z:Bx q->p:=by exact fun h=>UX trivial trivial trivial trivial trivial trivial trivial trivial h.1):p:=z ⟨h⟩
theorem Zr (u1:a) (u2:b) (u3:c) (u4:d) (u5:e) (u6:f) (u7:g) (h:q) (z:a->b->c->d->e->f->g->Bx q->p:=by exact fun u1 u2 u3 u4 u5 u6 u7 h=>QP u1 u2 u3 u4 u5 u6 u7 trivial h.1):p:=z u1 u2 u3 u4 u5 u6 u7 ⟨h⟩
theorem Wk (u1:a) (u2:b) (u3:c) (u4:d) (u5:e) (u6:f) (h:q) (z:a->b->c->d->e->f->Bx q->p:=by exact fun u1 u2 u3 u4 u5 u6 h=>QP u1 u2 u3 u4 u5 u6 trivial trivial h.1):p:=z u1 u2 u3 u4 u5 u6 ⟨h⟩
theorem Jk (u1:a) (u2:b) (u3:c) (u4:d) (u5:e) (h:q) (z:a->b->c->d->e->Bx q->p:=by exact fun u1 u2 u3 u4 u5 h=>QP u1 u2 u3 u4 u5 trivial trivial trivial h.1):p:=z u1 u2 u3 u4 u5 ⟨h⟩
theorem O0 (u1:a) (u2:b) (u3:c) (u4:d) (h:q) (z:a->b->c->d->Bx q->p:=by exact fun u1 u2 u3 u4 h=>QP u1 u2 u3 u4 trivial trivial trivial trivial h.1):p:=z u1 u2 u3 u4 ⟨h⟩
theorem pU (u1:a) (u2:b) (u3:c) (h:q) (z:a->b->c->Bx q->p:=by exact fun u1 u2 u3 h=>QP u1 u2 u3 trivial trivial trivial trivial trivial h.1):p:=z u1 u2 u3 ⟨h⟩
theorem iU (u1:a) (u2:b) (h:q) (z:a->b->Bx q->p:=by exact fun u1 u2 h=>QP u1 u2 trivial trivial trivial trivial trivial trivial h.1):p:=z u1 u2 ⟨h⟩
theorem cJ (u1:a) (h:q) (z:a->Bx q->p:=by exact fun u1 h=>QP u1 trivial trivial trivial trivial trivial trivial trivial h.1):p:=z u1 ⟨h⟩
theorem zr (h:q) (z:Bx q->p:=by (intro hq;(conv=>whnf);(repeat (refine zz ?_<;>(conv=>whnf)));exact hq.1)):p:=z ⟨h⟩
end
theorem dK {f g:Fr} (h:Fr.le f g:=by repeat (first|exact Fr.le_nil|refine Fr.Ta rfl ?_)):Fr.le f g:=h
theorem yM {ρ:Ren} {b:pT} {F:Fz} {cs ds:List V} (h:yZ ρ b F cs ds:=by ((repeat (first|exact trivial|refine ⟨by first|exact iM rfl|exact .nil|exact .tok|exact .A6 rfl (Nat.le_of_ble_eq_true rfl)|exact .rows (by ((repeat (first|exact .nil|refine .cons (by ((repeat (first|exact .nil|refine .cons (by first|exact .refl _|exact .nil _) ?_));first|done|fail)) ?_));first|done|fail)),?_⟩));first|done|fail)):yZ ρ b F cs ds:=h
theorem QQ {n:Nat} {x:aO} {es:List aO} (hn:n=es.length):List.drop 0 (List.take (0+n) (es.map aJ))++[aJ x]=(es++[x]).map aJ:=by
 subst hn
 rw [Nat.zero_add,List.drop_zero,List.take_of_length_le (by rw [List.length_map];exact Nat.le_refl _),List.map_append]
 rfl
theorem uR {ρ:Ren} {b:pT} {F:Fz} {n:Nat} {x:aO} {es:List aO} (hn:n=es.length):Jf ρ b F (List.drop 0 (List.take (0+n) (es.map aJ))++[aJ x]) ((es++[x]).map aJ):=by
 rw [QQ hn]
 exact lF (fun _=>rfl) _
theorem yN {fr bZ:Fr} {st:St} (hf:BJ UW ⟨0,0⟩ gA bZ fr:=by repeat (first|exact BJ.nil|refine BJ.cons (by first|exact uM rfl|exact rH|exact Aa) ?_)):Jg fr st bZ (dG gZ):=aeF hf
theorem tL (ks:List Nat) {n:Nat} {rY:List (Nat×Obj)} {fr bZ:Fr} {st:St} (hn:ks.length=n:=by rfl) (hd:ks.Nodup:=by decide) (hl:wU ⟨id,fun i=>ks.getD i 0⟩ gA .l (fun i=>ks.getD i 0) n ⟨0,n⟩ st.l rY:=by ((repeat (first|exact trivial|refine ⟨⟨Nat.le_of_ble_eq_true rfl,rfl,_,rfl,by first|exact trivial|exact ⟨rfl,trivial⟩|exact fO rfl|exact ⟨rfl,lF (fun _=>rfl) _⟩|exact ⟨rfl,fO rfl,trivial⟩|exact ⟨rfl,Ac _⟩|exact ⟨rfl,uR (by assumption)⟩|exact (by ((repeat (first|exact trivial|refine ⟨by first|exact iM rfl|exact .nil|exact .tok|exact .A6 rfl (Nat.le_of_ble_eq_true rfl)|exact .rows (by ((repeat (first|exact .nil|refine .cons (by ((repeat (first|exact .nil|refine .cons (by first|exact .refl _|exact .nil _) ?_));first|done|fail)) ?_));first|done|fail)),?_⟩));first|done|fail))⟩,?_⟩));first|done|fail)) (hf:BJ ⟨id,fun i=>ks.getD i 0⟩ ⟨0,n⟩ gA bZ fr:=by repeat (first|exact BJ.nil|refine BJ.cons (by first|exact uM rfl|exact QM rfl (Nat.le_of_ble_eq_true rfl)|exact Hx rfl (Nat.le_of_ble_eq_true rfl)|exact rH|exact Aa) ?_)):
 Jg fr st bZ ⟨gZ,⟨n,rY⟩⟩:=aeG ks hn hd hl hf
theorem tG (gs ls:List Nat) {n m:Nat} {uN uO:List (Nat×Obj)} {fr bZ:Fr} {st:St} (hn:gs.length=n:=by rfl) (hm:ls.length=m:=by rfl) (hd:gs.Nodup:=by decide) (he:ls.Nodup:=by decide)
 (hg:wU ⟨fun i=>gs.getD i 0,fun i=>ls.getD i 0⟩ gA .g (fun i=>gs.getD i 0) n ⟨n,0⟩ st.g uN:=by ((repeat (first|exact trivial|refine ⟨⟨Nat.le_of_ble_eq_true rfl,rfl,_,rfl,by first|exact trivial|exact ⟨rfl,trivial⟩|exact fO rfl|exact ⟨rfl,lF (fun _=>rfl) _⟩|exact ⟨rfl,fO rfl,trivial⟩|exact ⟨rfl,Ac _⟩|exact ⟨rfl,uR (by assumption)⟩|exact (by ((repeat (first|exact trivial|refine ⟨by first|exact iM rfl|exact .nil|exact .tok|exact .A6 rfl (Nat.le_of_ble_eq_true rfl)|exact .rows (by ((repeat (first|exact .nil|refine .cons (by ((repeat (first|exact .nil|refine .cons (by first|exact .refl _|exact .nil _) ?_));first|done|fail)) ?_));first|done|fail)),?_⟩));first|done|fail))⟩,?_⟩));first|done|fail)) (hl:wU ⟨fun i=>gs.getD i 0,fun i=>ls.getD i 0⟩ gA .l (fun i=>ls.getD i 0) m ⟨n,m⟩ st.l uO:=by ((repeat (first|exact trivial|refine ⟨⟨Nat.le_of_ble_eq_true rfl,rfl,_,rfl,by first|exact trivial|exact ⟨rfl,trivial⟩|exact fO rfl|exact ⟨rfl,lF (fun _=>rfl) _⟩|exact ⟨rfl,fO rfl,trivial⟩|exact ⟨rfl,Ac _⟩|exact ⟨rfl,uR (by assumption)⟩|exact (by ((repeat (first|exact trivial|refine ⟨by first|exact iM rfl|exact .nil|exact .tok|exact .A6 rfl (Nat.le_of_ble_eq_true rfl)|exact .rows (by ((repeat (first|exact .nil|refine .cons (by ((repeat (first|exact .nil|refine .cons (by first|exact .refl _|exact .nil _) ?_));first|done|fail)) ?_));first|done|fail)),?_⟩));first|done|fail))⟩,?_⟩));first|done|fail))
 (hf:BJ ⟨fun i=>gs.getD i 0,fun i=>ls.getD i 0⟩ ⟨n,m⟩ gA bZ fr:=by ((repeat (first|exact BJ.nil|refine BJ.cons (by first|exact uM rfl|exact QM rfl (Nat.le_of_ble_eq_true rfl)|exact QN rfl (Nat.le_of_ble_eq_true rfl)|exact Zs rfl (Nat.le_of_ble_eq_true rfl)|exact Hx rfl (Nat.le_of_ble_eq_true rfl)|exact rH|exact Aa|exact .inl (.inl (.rows (by ((repeat (first|exact .nil|refine .cons (by ((repeat (first|exact .nil|refine .cons (by first|exact .refl _|exact .nil _) ?_));first|done|fail)) ?_));first|done|fail))))|exact .inl (.inr (.inl ⟨_,_,rfl,rfl,(by ((repeat (first|exact trivial|refine ⟨by first|exact iM rfl|exact .nil|exact .tok|exact .A6 rfl (Nat.le_of_ble_eq_true rfl)|exact .rows (by ((repeat (first|exact .nil|refine .cons (by ((repeat (first|exact .nil|refine .cons (by first|exact .refl _|exact .nil _) ?_));first|done|fail)) ?_));first|done|fail)),?_⟩));first|done|fail))⟩))) ?_));first|done|fail)):Jg fr st bZ ⟨⟨n,uN⟩,⟨m,uO⟩⟩:=Zo gs ls hn hm hd he hg hl hf
end Go.Eng
