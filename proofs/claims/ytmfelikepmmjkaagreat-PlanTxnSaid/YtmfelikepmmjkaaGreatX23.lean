/-
Functions of values that make one row of rows to be written to: what they promise from the empty heap holds in every heap.
-/
import Derived.Test.YtmfelikepmmjkaaGreatX22
import Derived.Test.YtmfelikepmmjkaaGreatX21
set_option linter.unusedVariables false
set_option linter.unusedSimpArgs false
set_option maxHeartbeats 1000000
namespace Go.Eng
open Go
def V.QF (n:Nat):V->V
 |.ms (.g 0) sz a c=>.ms (.g n) sz a c
 |v=>v
def V.up (n:Nat):V->V
 |.agg cs=>.agg (cs.map (V.QF n))
 |v=>v.QF n
def V.G6:V->Bool
 |.ms (.g 0) _ _ _=>true
 |v=>v.flat
def V.made:V->Bool
 |.agg cs=>cs.all V.G6
 |v=>v.G6
theorem G7 {E F:Env} {n:Nat} (hI:uZ E.I F.I) (hn:F.has (.g n)) (hμ:F.μ (.g n)=E.μ (.g 0)) {v:V} {x:Value} (hv:v.G6=true) (hr:Rel E v x):Rel F (v.QF n) x:=by
 unfold V.G6 at hv
 split at hv
 · cases hr with
   |deep hd=>cases hd
   |ms _ _ _ _ a cap hk hc hf hb ha=>
    exact .ms _ _ _ _ _ _ hn hc (by rw [hμ];exact hf) (by rw [hμ];exact hb) (by rw [hμ];exact ha)
 · rename_i h
   have:v.QF n=v:=by
    unfold V.QF
    split
    · exact absurd rfl (h _ _ _)
    · rfl
   rw [this]
   exact oH hI hv hr
theorem G8 {E F:Env} {n:Nat} (hI:uZ E.I F.I) (hn:F.has (.g n)) (hμ:F.μ (.g n)=E.μ (.g 0)) {v:V} {x:Value} (hv:v.made=true) (hr:Rel E v x):Rel F (v.up n) x:=by
 unfold V.made at hv
 split at hv
 · rename_i cs
   simp only [List.all_eq_true] at hv
   cases hr with
   |deep hd=>cases hd
   |agg _ a ha h1 Jq=>
    refine .agg _ _ (by simpa using ha) h1 fun j v x hj hx=>?_
    rw [List.getElem?_map] at hj
    cases hc:cs[j]? with
    |none=>rw [hc] at hj;cases hj
    |some u=>
     rw [hc] at hj
     cases hj
     exact G7 hI hn hμ (hv u (List.mem_of_getElem? hc)) (Jq j u x hc hx)
 · rename_i h
   have:v.up n=v.QF n:=by
    unfold V.up
    split
    · exact absurd rfl (h _)
    · rfl
   rw [this]
   exact G7 hI hn hμ hv hr
def Cg (sz:Nat) (es:List (List V)):aA:=⟨1,[(0,.arr sz es)]⟩
def Ch (Q:V->Nat->List (List V)->Prop) (v:V) (h':aA):Prop:=
 ∃ u sz es,IQ [(0,v)] (dP h') [(0,u)] (dP (Cg sz es))/\u.made=true/\(∀ e∈es,e.all V.flat=true)/\Q u sz es
theorem aC.made {P:Program} {f:Nat} {args:List V} {Q:V->Nat->List (List V)->Prop} (h0:aC P f args iJ (Ch Q)) (ha:args.all V.free=true) {h:aA} {K:V->aA->Prop}
 (hK:∀ u sz es,Q u sz es->K (u.up h.next) (h.push (.arr sz es))):aC P f args h K:=by
 refine ⟨h0.1,fun E w vs tO hs hv=>?_⟩
 simp only [List.all_eq_true] at ha
 let E0:Env:={ I:=E.I,μ:=E.μ,ng:=0,nl:=0 }
 have QE:cH E0 (dP iJ) w:=⟨rfl,rfl,fun k hk=>absurd hk cI,hs.j6,fun k o hk=>absurd ⟨o,hk⟩ cI,fun k k' hk=>absurd hk cI,fun k hk=>absurd hk cI⟩
 have NX:eT E0 args vs:=⟨hv.1,fun j v x hj hx=>wD (E:=E) (F:=E0) (fun b o x h=>h) (ha v (List.mem_of_getElem? hj)) (hv.2 j v x hj hx)⟩
 refine (h0.2 E0 w vs rfl QE NX).mono ?_
 rintro e w' ⟨v,x,h',E1,⟨u,sz,es,ht,SC,GK,hq⟩,rfl,hn,zI,Ux,Ef⟩
 obtain ⟨E',Ay,he,Dt⟩:=ht.ok rfl rfl zI Ux
 have hr:=Dt 0 x Ef
 have hr:Rel E' u x:=hr
 have D4:uZ E.I E'.I:=he.le.j6
 have hng:h.next=E.ng:=hs.ng
 have eO:(dP (Cg sz es)).get (.g 0)=some (.arr sz es):=rfl
 have u9:(dP (Cg sz es)).live (.g 0):=⟨_,eO⟩
 have hblk:w.heap.size<=(E'.μ (.g 0)).bS:=by
  rcases he.iB (.g 0) u9 (fun hk=>absurd hk (Nat.not_lt_zero _)) with h1|⟨k0,h1,_⟩
  · exact h1
  · exact absurd h1 cI
 have lA:∀ k,(dP h).live k->w'.heap[(E.μ k).bS]? =w.heap[(E.μ k).bS]? :=fun k hk=>he.same _ (hs.lt hk) fun k0 Pm=>absurd Pm cI
 let G:Env:={ I:=E'.I,μ:=fun k=>if k=.g h.next then E'.μ (.g 0) else E.μ k,ng:=h.next+1,nl:=E.nl }
 have yR:∀ k,E.has k->k≠.g h.next:=fun k hk e=>by
  subst e
  have:h.next<E.ng:=hk
  omega
 have hμ:∀ k,E.has k->G.μ k=E.μ k:=fun k hk=>if_neg (yR k hk)
 have hle:E.Le G:=⟨D4,by show E.ng<=h.next+1;omega,Nat.le_refl _,hμ⟩
 have fU:∀ k,(dP (h.push (.arr sz es))).get k=if k=.g h.next then some (.arr sz es) else (dP h).get k:=by
  intro k
  cases k with
  |g n=>
   show (h.push (.arr sz es)).get n=_
   rw [aA.kY]
   by_cases e:n=h.next
   · subst e;simp
   · rw [if_neg e,if_neg (fun e'=>e (by cases e';rfl))];rfl
  |l n=>simp [St.get]
 have eQ:∀ k,(dP (h.push (.arr sz es))).live k->k=.g h.next\/((dP h).live k/\k≠.g h.next):=by
  rintro k ⟨o,ho⟩
  rw [fU] at ho
  split at ho
  · rename_i e;exact .inl e
  · rename_i e;exact .inr ⟨⟨o,ho⟩,e⟩
 have hG:G.μ (.g h.next)=E'.μ (.g 0):=if_pos rfl
 refine ⟨u.up h.next,x,h.push (.arr sz es),G,hK u sz es hq,rfl,tO,⟨rfl,hs.nl,fun k hk=>?_,Ay.j6,fun k o hk=>?_,fun k k' hk iT dJ=>?_,fun k hk j h1 h2=>?_⟩,
  ⟨hle,he.size,fun b o x hx=>?_,fun k hk hn=>?_,fun k hk hn=>?_,fun b hb _=>he.same b hb fun k hk=>absurd hk cI,he.os,he.out,he.tape⟩,G8 (E:=E') (F:=G) (n:=h.next) (fun b o x h=>h) (Nat.lt_succ_self _) hG SC hr⟩
 · rcases eQ k hk with rfl|⟨hk,_⟩
   · show h.next<h.next+1;omega
   · exact hle.has (hs.j7 k hk)
 · rw [fU] at hk
   split at hk
   · rename_i e
     subst e
     cases hk
     have:=Ay.obj _ _ eO
     rw [hG]
     obtain ⟨hl,cells,t,fz,r1,r2,r3,r4,r5⟩:=this
     refine ⟨hl,cells,t,fz,r1,r2,r3,r4,fun j v hj=>?_⟩
     obtain ⟨x,hx,xU,h1⟩:=r5 j v hj
     refine ⟨x,hx,oH (E:=E'.at (.g 0)) (F:=G.at (.g h.next)) (fun b o x h=>h) ?_ xU,h1⟩
     have hm:=List.mem_of_getElem? hj
     obtain ⟨l,UA,AA⟩:=List.mem_flatten.1 hm
     exact List.all_eq_true.1 (GK l UA) v AA
   · have UB:(dP h).live k:=⟨o,hk⟩
     rw [hμ k (hs.j7 k UB)]
     exact (hs.obj k o hk).dZ (Env.jC hle k) (lA k UB)
 · rcases eQ k hk with rfl|⟨h1,e1⟩
   · rcases eQ k' iT with rfl|⟨h2,e2⟩
     · exact absurd rfl dJ
     · rw [hG,hμ k' (hs.j7 k' h2)]
       have:=hs.lt h2
       omega
   · rcases eQ k' iT with rfl|⟨h2,e2⟩
     · rw [hG,hμ k (hs.j7 k h1)]
       have:=hs.lt h1
       omega
     · rw [hμ k (hs.j7 k h1),hμ k' (hs.j7 k' h2)]
       exact hs.sep k k' h1 h2 dJ
 · rcases eQ k hk with rfl|⟨hk,_⟩
   · rw [hG] at h1 h2 ⊢
     exact Ay.own _ u9 j h1 h2
   · rw [hμ k (hs.j7 k hk)] at h1 h2 ⊢
     show E'.I (E.μ k).bS j=none
     cases hx:E'.I (E.μ k).bS j with
     |none=>rfl
     |some y=>
      rcases he.fT _ _ _ hx with h3|h3|⟨k0,h3,_⟩
      · have:=hs.own k hk j h1 h2
        rw [show E0.I=E.I from rfl,this] at h3
        cases h3
      · have:=hs.lt hk
        omega
      · exact absurd h3 cI
 · rcases he.fT b o x hx with h1|h1|⟨k0,h1,_⟩
   · exact .inl h1
   · exact .inr (.inl h1)
   · exact absurd h1 cI
 · rcases eQ k hk with rfl|⟨h1,_⟩
   · exact absurd rfl (yR _ hn)
   · exact h1
 · rcases eQ k hk with rfl|⟨h1,_⟩
   · rw [hG];exact .inl hblk
   · exact absurd (hs.j7 k h1) hn
open Go
theorem EX {E F:Env} {n:Nat} (hI:uZ F.I E.I) (hn:E.has (.g 0)) (hμ:E.μ (.g 0)=F.μ (.g n)) {v:V} {x:Value} (hv:v.G6=true) (hr:Rel F (v.QF n) x):Rel E v x:=by
 unfold V.G6 at hv
 split at hv
 · simp only [V.QF] at hr
   cases hr with
   |deep hd=>cases hd
   |ms _ _ _ _ a cap hk hc hf hb ha=>
    exact .ms _ _ _ _ _ _ hn hc (by rw [hμ];exact hf) (by rw [hμ];exact hb) (by rw [hμ];exact ha)
 · rename_i h
   have:v.QF n=v:=by
    unfold V.QF
    split
    · exact absurd rfl (h _ _ _)
    · rfl
   rw [this] at hr
   exact oH hI hv hr
theorem MM {E F:Env} {n:Nat} (hI:uZ F.I E.I) (hn:E.has (.g 0)) (hμ:E.μ (.g 0)=F.μ (.g n)) {v:V} {x:Value} (hv:v.made=true) (hr:Rel F (v.up n) x):Rel E v x:=by
 unfold V.made at hv
 split at hv
 · rename_i cs
   simp only [List.all_eq_true] at hv
   simp only [V.up] at hr
   cases hr with
   |deep hd=>cases hd
   |agg _ a ha h1 Jq=>
    refine .agg _ _ (by simpa using ha) h1 fun j v x hj hx=>?_
    exact EX hI hn hμ (hv v (List.mem_of_getElem? hj)) (Jq j (v.QF n) x (by rw [List.getElem?_map,hj];rfl) hx)
 · rename_i h
   have:v.up n=v.QF n:=by
    unfold V.up
    split
    · exact absurd rfl (h _)
    · rfl
   rw [this] at hr
   exact EX hI hn hμ hv hr
theorem EY {E F:Env} (hI:uZ E.I F.I) {w:World} {L:Loc} {sz:Nat} {es:List (List V)} (hf:∀ e∈es,e.all V.flat=true) (h:Holds E w L (.arr sz es)):Holds F w L (.arr sz es):=by
 obtain ⟨hl,cells,t,fz,r1,r2,r3,r4,r5⟩:=h
 refine ⟨hl,cells,t,fz,r1,r2,r3,r4,fun j v hj=>?_⟩
 obtain ⟨x,hx,xU,h1⟩:=r5 j v hj
 refine ⟨x,hx,oH hI ?_ xU,h1⟩
 have hm:=List.mem_of_getElem? hj
 obtain ⟨l,UA,AA⟩:=List.mem_flatten.1 hm
 exact List.all_eq_true.1 (hf l UA) v AA
theorem Kw {sz:Nat} {es:List (List V)} {k:Key} {o:Obj} (h:(dP (Cg sz es)).get k=some o):k=.g 0/\o=.arr sz es:=by
 cases k with
 |g n=>
  by_cases hn:n=0
  · subst hn;cases h;exact ⟨rfl,rfl⟩
  · exfalso
    have:(Cg sz es).get n=some o:=h
    simp [Cg,aA.get,aA.find,Ne.symm hn] at this
 |l n=>simp [St.get,GD,aA.get,aA.find] at h
def Ci (sz:Nat) (Q:V->List (List V)->Prop) (v:V) (h':aA):Prop:=
 ∃ u es,Ai 1 [(0,v)] (dP h') [(0,u)] (dP (Cg sz es))/\u.made=true/\(∀ e∈es,e.all V.flat=true)/\Q u es
theorem Ci.of {Q:V->List (List V)->Prop} {v u:V} {sz:Nat} {es:List (List V)} {h':aA} (ht:Ai 1 [(0,v)] (dP h') [(0,u)] ⟨⟨1,[(0,.arr sz es)]⟩,⟨0,[]⟩⟩) (hu:u.made=true) (hf:∀ e∈es,e.all V.flat=true) (hq:Q u es):Ci sz Q v h':=⟨u,es,ht,hu,hf,hq⟩
theorem aC.ah1 {P:Program} {f:Nat} {args:List V} {sz:Nat} {Yj:List (List V)} {Q:V->List (List V)->Prop} (h0:aC P f args (Cg sz Yj) (Ci sz Q)) (ha:args.all V.made=true) (Ic:∀ e∈Yj,e.all V.flat=true)
 {h:aA} {k:Nat} (hk:h.get k=some (.arr sz Yj)) {K:V->aA->Prop} (hK:∀ u es,Q u es->K (u.up k) (h.set k (.arr sz es))):aC P f (args.map (V.up k)) h K:=by
 refine ⟨h0.1,fun E w vs tO hs hv=>?_⟩
 simp only [List.all_eq_true] at ha
 have eO:(dP h).get (.g k)=some (.arr sz Yj):=hk
 have GC:(dP h).live (.g k):=⟨_,eO⟩
 let E0:Env:={ I:=E.I,μ:=fun _=>E.μ (.g k),ng:=1,nl:=0 }
 have u9:∀ k0,(dP (Cg sz Yj)).live k0->k0=.g 0:=fun k0 ⟨o,ho⟩=>(Kw ho).1
 have QE:cH E0 (dP (Cg sz Yj)) w:=by
  refine ⟨rfl,rfl,fun k0 h1=>?_,hs.j6,fun k0 o ho=>?_,fun k0 k1 h1 h2 dJ=>?_,fun k0 h1 j h2 h3=>?_⟩
  · rw [u9 k0 h1];exact Nat.zero_lt_one
  · obtain ⟨rfl,rfl⟩:=Kw ho
    exact EY (E:=E.at (.g k)) (F:=E0.at (.g 0)) (fun b o x h=>h) Ic (hs.obj _ _ eO)
  · exact absurd ((u9 k0 h1).trans (u9 k1 h2).symm) dJ
  · exact hs.own _ GC j h2 h3
 have NX:eT E0 args vs:=by
  refine ⟨by simpa using hv.1,fun j v x hj hx=>?_⟩
  exact MM (E:=E0) (F:=E) (n:=k) (fun b o x h=>h) Nat.zero_lt_one rfl (ha v (List.mem_of_getElem? hj)) (hv.2 j (v.up k) x (by rw [List.getElem?_map,hj];rfl) hx)
 refine (h0.2 E0 w vs rfl QE NX).mono ?_
 rintro e w' ⟨v,x,h',E1,⟨u,es,ht,SC,GK,hq⟩,rfl,hn,zI,Ux,Ef⟩
 obtain ⟨E',Ay,he,Dt⟩:=ht.ok rfl rfl zI Ux
 have hr:Rel E' u x:=Dt 0 x Ef
 have D4:uZ E.I E'.I:=he.le.j6
 have Yk:E'.μ (.g 0)=E.μ (.g k):=he.le.loc (.g 0) Nat.zero_lt_one
 have zR:∀ k',(dP h).live k'->k'≠.g k->∀ k0,(dP (Cg sz Yj)).live k0->(E0.μ k0).bS≠(E.μ k').bS:=fun k' h1 h2 k0 h3=>hs.sep _ _ GC h1 (Ne.symm h2)
 have lA:∀ k',(dP h).live k'->k'≠.g k->w'.heap[(E.μ k').bS]? =w.heap[(E.μ k').bS]? :=fun k' h1 h2=>he.same _ (hs.lt h1) (zR k' h1 h2)
 let G:Env:={ I:=E'.I,μ:=E.μ,ng:=E.ng,nl:=E.nl }
 have hle:E.Le G:=⟨D4,Nat.le_refl _,Nat.le_refl _,fun _ _=>rfl⟩
 have fU:∀ k',(dP (h.set k (.arr sz es))).get k'=if k'=.g k then some (.arr sz es) else (dP h).get k':=by
  intro k'
  cases k' with
  |g n=>
   show (h.set k (.arr sz es)).get n=_
   rw [aA.xT]
   by_cases e:n=k
   · subst e;simp [hk]
   · rw [if_neg e,if_neg (fun e'=>e (by cases e';rfl))];rfl
  |l n=>simp [St.get]
 have eQ:∀ k',(dP (h.set k (.arr sz es))).live k'->(dP h).live k':=by
  rintro k' ⟨o,ho⟩
  rw [fU] at ho
  split at ho
  · rename_i e;rw [e];exact GC
  · exact ⟨o,ho⟩
 have acF:(dP (Cg sz es)).get (.g 0)=some (.arr sz es):=rfl
 refine ⟨u.up k,x,h.set k (.arr sz es),G,hK u es hq,rfl,tO,⟨hs.ng,hs.nl,fun k' h1=>hs.j7 k' (eQ k' h1),Ay.j6,fun k' o h1=>?_,fun k' k2 h1 h2 dJ=>hs.sep k' k2 (eQ k' h1) (eQ k2 h2) dJ,fun k' h1 j h2 h3=>?_⟩,
  ⟨hle,he.size,fun b o x hx=>?_,fun k' h1 _=>eQ k' h1,fun k' h1 hn=>absurd (hs.j7 k' (eQ k' h1)) hn,fun b hb pH=>he.same b hb fun k0 h1=>pH (.g k) GC,he.os,he.out,he.tape⟩,
  G8 (E:=E') (F:=G) (n:=k) (fun b o x h=>h) (hs.j7 _ GC) Yk.symm SC hr⟩
 · rw [fU] at h1
   split at h1
   · rename_i e
     subst e
     cases h1
     have h2:=Ay.obj _ _ acF
     rw [Yk] at h2
     exact EY (E:=E'.at (.g 0)) (F:=G.at (.g k)) (fun b o x h=>h) GK h2
   · rename_i dJ
     have UB:(dP h).live k':=⟨o,h1⟩
     exact (hs.obj k' o h1).dZ (Env.jC hle k') (lA k' UB dJ)
 · have Xv:=eQ k' h1
   by_cases BT:k'=.g k
   · subst BT
     have:=Ay.own (.g 0) ⟨_,acF⟩ j
     rw [Yk] at this
     exact this h2 h3
   · show E'.I (E.μ k').bS j=none
     cases hx:E'.I (E.μ k').bS j with
     |none=>rfl
     |some y=>
      rcases he.fT _ _ _ hx with h4|h4|⟨k0,h4,h5⟩
      · have:=hs.own k' Xv j h2 h3
        rw [show E0.I=E.I from rfl,this] at h4
        cases h4
      · have:=hs.lt Xv
        omega
      · exact absurd h5 (zR k' Xv BT k0 h4)
 · rcases he.fT b o x hx with h1|h1|⟨k0,h1,h2⟩
   · exact .inl h1
   · exact .inr (.inl h1)
   · exact .inr (.inr ⟨.g k,GC,h2⟩)
theorem Vj {h:aA} {r:Nat} {o o':Obj} (hr:h.get r=some o) (k':Key):(dP (h.set r o')).get k'=if k'=.g r then some o' else (dP h).get k':=by
 cases k' with
 |g n=>
  show (h.set r o').get n=_
  rw [aA.xT]
  by_cases e:n=r
  · subst e;simp [hr]
  · rw [if_neg e,if_neg (fun e'=>e (by cases e';rfl))];rfl
 |l n=>simp [St.get]
theorem aC.shrink {P:Program} {f:Nat} {args:List V} {h:aA} {r sz:Nat} {K:V->aA->Prop} (h0:aC P f args h (fun v h'=>∃ es m,h'.get r=some (.arr sz es)/\K v (h'.set r (.arr sz (es.take m))))):aC P f args h K:=by
 refine ⟨h0.1,fun E w vs tO hs hv=>(h0.2 E w vs tO hs hv).mono ?_⟩
 rintro e w' ⟨v,x,h',E',⟨es,m,hr,hk⟩,rfl,hn,Ay,he,iX⟩
 have eO:(dP h').get (.g r)=some (.arr sz es):=hr
 have fU:=Vj (o':=.arr sz (es.take m)) hr
 have eQ:∀ k',(dP (h'.set r (.arr sz (es.take m)))).live k'->(dP h').live k':=by
  rintro k' ⟨o,ho⟩
  rw [fU] at ho
  split at ho
  · rename_i e;rw [e];exact ⟨_,eO⟩
  · exact ⟨o,ho⟩
 refine ⟨v,x,h'.set r (.arr sz (es.take m)),E',hk,rfl,hn,⟨Ay.ng,Ay.nl,fun k' h1=>Ay.j7 k' (eQ k' h1),Ay.j6,fun k' o h1=>?_,fun k' k2 h1 h2 dJ=>Ay.sep k' k2 (eQ k' h1) (eQ k2 h2) dJ,fun k' h1=>Ay.own k' (eQ k' h1)⟩,
  ⟨he.le,he.size,he.fT,fun k' h1 h2=>he.gT k' (eQ k' h1) h2,fun k' h1 h2=>he.iB k' (eQ k' h1) h2,he.same,he.os,he.out,he.tape⟩,iX⟩
 rw [fU] at h1
 split at h1
 · rename_i e
   subst e
   cases h1
   obtain ⟨hl,cells,t,fz,r1,r2,r3,r4,r5⟩:=Ay.obj _ _ eO
   have vG:es.flatten=(es.take m).flatten++(es.drop m).flatten:=by rw [<-List.flatten_append,List.take_append_drop]
   refine ⟨fun e he=>hl e (List.mem_of_mem_take he),cells,t,fz,r1,r2,?_,r4,fun j v hj=>r5 j v ?_⟩
   · rw [vG,List.length_append] at r3
     omega
   · rw [vG,List.getElem?_append_left (List.getElem?_eq_some_iff.1 hj).1]
     exact hj
 · exact Ay.obj k' o h1
theorem aA.CO {n m:Nat} (h:m≠n) (x:Obj):∀ l:List (Nat×Obj),aA.find (aA.CA l n x) m=aA.find l m
 |[]=>rfl
 |(k,o)::r=>by
  simp only [aA.CA]
  by_cases hk:k=n
  · rw [if_pos hk]
    simp only [aA.find]
    rw [if_neg (by rw [hk];exact fun e=>h e.symm),if_neg (by rw [hk];exact fun e=>h e.symm)]
  · rw [if_neg hk]
    simp only [aA.find]
    rw [aA.CO h x r]
theorem aA.zN {n:Nat} (x:Obj):∀ {l:List (Nat×Obj)} {o:Obj},aA.find l n=some o->aA.find (aA.CA l n x) n=some x
 |[],o,h=>by simp [aA.find] at h
 |(k,o')::r,o,h=>by
  simp only [aA.CA]
  by_cases hk:k=n
  · rw [if_pos hk];simp [aA.find,hk]
  · rw [if_neg hk]
    simp only [aA.find,if_neg hk] at h ⊢
    exact aA.zN x h
theorem aA.wL {n m:Nat} (h:m≠n):∀ l:List (Nat×Obj),aA.find (aA.del l n) m=aA.find l m
 |[]=>rfl
 |(k,o)::r=>by
  simp only [aA.del]
  by_cases hk:k=n
  · rw [if_pos hk,aA.wL h r]
    simp only [aA.find]
    rw [if_neg (by rw [hk];exact fun e=>h e.symm)]
  · rw [if_neg hk]
    simp only [aA.find]
    rw [aA.wL h r]
theorem aA.aB (h:aA) (o:Obj):(h.push o).get h.next=some o:=by simp [aA.push,aA.get,aA.find]
theorem aA.fI {h:aA} {o:Obj} {n:Nat} (hn:n≠h.next):(h.push o).get n=h.get n:=by
 simp only [aA.push,aA.get,aA.find]
 rw [if_neg fun e=>hn e.symm]
theorem aA.aD {h:aA} {o o':Obj} {n:Nat} (hn:h.get n=some o'):(h.set n o).get n=some o:=aA.zN o hn
theorem aA.iL {h:aA} {o:Obj} {n m:Nat} (hn:m≠n):(h.set n o).get m=h.get m:=aA.CO hn o _
theorem aA.nT {h:aA} {n m:Nat} (hn:m≠n):(h.remove n).get m=h.get m:=aA.wL hn _
theorem aA.gp {h:aA} {o:Obj} {n:Nat} {x:Obj} (hn:n≠h.next) (hx:h.get n=some x):(h.push o).get n=some x:=by rw [aA.fI hn];exact hx
theorem aA.gs {h:aA} {o:Obj} {n m:Nat} {x:Obj} (hn:m≠n) (hx:h.get m=some x):(h.set n o).get m=some x:=by rw [aA.iL hn];exact hx
theorem aA.gr {h:aA} {n m:Nat} {x:Obj} (hn:m≠n) (hx:h.get m=some x):(h.remove n).get m=some x:=by rw [aA.nT hn];exact hx
structure aA.aJ (but:Nat->Prop) (h h':aA):Prop where
 next:h.next<=h'.next
 same:∀ n,n<h.next->¬but n->h'.get n=h.get n
theorem aA.aJ.refl (b:Nat->Prop) (h:aA):aA.aJ b h h:=⟨Nat.le_refl _,fun _ _ _=>rfl⟩
theorem aA.aJ.trans {b:Nat->Prop} {h1 h2 h3:aA} (a:aA.aJ b h1 h2) (c:aA.aJ b h2 h3):aA.aJ b h1 h3:=
 ⟨Nat.le_trans a.next c.next,fun n hn hb=>(c.same n (Nat.lt_of_lt_of_le hn a.next) hb).trans (a.same n hn hb)⟩
theorem aA.aJ.push {b:Nat->Prop} {h h':aA} (a:aA.aJ b h h') (o:Obj):aA.aJ b h (h'.push o):=
 ⟨Nat.le_succ_of_le a.next,fun n hn hb=>(aA.fI (by have:=a.next;omega)).trans (a.same n hn hb)⟩
theorem aA.aJ.set {b:Nat->Prop} {h h':aA} (a:aA.aJ b h h') {k:Nat} (hk:b k\/h.next<=k) (o:Obj):aA.aJ b h (h'.set k o):=
 ⟨a.next,fun n hn hb=>(aA.iL (by rintro rfl;rcases hk with hk|hk;exact hb hk;omega)).trans (a.same n hn hb)⟩
theorem aA.aJ.remove {b:Nat->Prop} {h h':aA} (a:aA.aJ b h h') {k:Nat} (hk:b k\/h.next<=k):aA.aJ b h (h'.remove k):=
 ⟨a.next,fun n hn hb=>(aA.nT (by rintro rfl;rcases hk with hk|hk;exact hb hk;omega)).trans (a.same n hn hb)⟩
theorem aA.aJ.mono {b b':Nat->Prop} {h h':aA} (a:aA.aJ b h h') (hb:∀ n,n<h.next->b n->b' n):aA.aJ b' h h':=
 ⟨a.next,fun n hn LD=>a.same n hn fun h=>LD (hb n hn h)⟩
open Go
abbrev aU:=List UInt8
structure cX where
 key:aU
 val:aU
 deriving DecidableEq
structure cM where
 key:aU
 kind:Int
 bF:List aU
 deriving DecidableEq
structure lC where
 key:aU
 val:aU
 any:Bool
 deriving DecidableEq
structure gW where
 a:Int
 b:Int
 c:Int
 deriving DecidableEq
structure aL where
 name:aU
 uid:Int
 prio:Int
 fQ:gW
 aN:List Int
 labels:List cX
 lM:List cM
 bW:List lC
 eG:aU
 cV:List cM
 lD:Int
 even:List cM
 node:aU
 term:Int
 deriving DecidableEq
structure bK where
 name:aU
 cap:gW
 labels:List cX
 cR:List cX
 deriving DecidableEq
structure dY where
 nodes:List bK
 aE:List aL
 deriving DecidableEq
def bE (s:aU):List V:=[.s s]
def fA (n:Int):List V:=[.i .i64 n]
def aY (p:cX):List V:=[.s p.key,.s p.val]
def bA (t:cM):List V:=[.s t.key,.i .i64 t.kind,.sl none 1 (t.bF.map bE)]
def eP (t:lC):List V:=[.s t.key,.s t.val,.b t.any]
def Aj (r:gW):List V:=[.i .i64 r.a,.i .i64 r.b,.i .i64 r.c]
def aI (p:aL):List V:=[.s p.name,.i .i64 p.uid,.i .i64 p.prio,.i .i64 p.fQ.a,.i .i64 p.fQ.b,.i .i64 p.fQ.c,.sl none 1 (p.aN.map fA),.sl none 2 (p.labels.map aY),
 .sl none 3 (p.lM.map bA),.sl none 3 (p.bW.map eP),.s p.eG,.sl none 3 (p.cV.map bA),.i .i64 p.lD,.sl none 3 (p.even.map bA),.s p.node,.i .i64 p.term]
def aK (n:bK):List V:=[.s n.name,.i .i64 n.cap.a,.i .i64 n.cap.b,.i .i64 n.cap.c,.sl none 2 (n.labels.map aY),.sl none 2 (n.cR.map aY)]
def kS (s:dY):V:=.agg [.sl none 6 (s.nodes.map aK),.sl none 16 (s.aE.map aI)]
theorem IU {α β:Type} {f:α->β} {l:List α} {i:Nat} {x:α} (h:l[i]? =some x):(l.map f)[i]? =some (f x):=by rw [List.getElem?_map,h];rfl
theorem aF {α β:Type} {f:α->β} {l:List α} {i j:Nat} {x:α} (e:j=i) (h:l[i]? =some x):(l.map f)[j]? =some (f x):=by subst e;exact IU h
theorem gI {α:Type} {R:α->List V} (h:∀ x,rF (R x)=some (R x)):∀ l:List α,eC (l.map R)=some (l.map R)
 |[]=>rfl
 |x::r=>by simp only [List.map_cons,eC,h x,gI h r]
theorem cG {α:Type} {l:List α} {i:Nat} {x:α} (h:l[i]? =some x):l.take (i+1)=l.take i++[x]:=by rw [List.take_add_one,h];rfl
def cJ {α:Type} (p:α->Bool) (l:List α) (i:Nat):Prop:=∀ (j:Nat) (e:α),j<i->l[j]? =some e->p e=false
section
variable {α:Type} {p:α->Bool} {l:List α} {i:Nat} {e:α}
theorem cJ.zero:cJ p l 0:=fun _ _ h=>absurd h (Nat.not_lt_zero _)
theorem cJ.succ (h:cJ p l i) (he:l[i]? =some e) (hp:p e=false):cJ p l (i+1):=fun j x hj hx=>by
 by_cases zE:j<i
 · exact h j x zE hx
 · obtain rfl:j=i:=by omega
   rw [he] at hx;cases hx;exact hp
theorem cJ.all (h:cJ p l i) (hi:l.length<=i):∀ x∈l,p x=false:=fun x hx=>by
 obtain ⟨j,hj⟩:=List.mem_iff_getElem?.1 hx
 exact h j x (by have:=(List.getElem?_eq_some_iff.1 hj).1;omega) hj
theorem pR (he:l[i]? =some e) (hp:p e=true) (h:cJ p l i):l.find? p=some e:=by
 rw [List.find?_eq_some_iff_getElem]
 obtain ⟨h1,rfl⟩:=List.getElem?_eq_some_iff.1 he
 exact ⟨hp,i,h1,rfl,fun j hj=>by simpa using h j _ hj (List.getElem?_eq_getElem (by omega))⟩
theorem pS (h:∀ x∈l,p x=false):l.find? p=none:=by
 rw [List.find?_eq_none]
 intro x hx
 simp [h x hx]
theorem any_some (he:l[i]? =some e) (hp:p e=true):l.any p=true:=List.any_eq_true.2 ⟨e,List.mem_of_getElem? he,hp⟩
theorem any_none (h:∀ x∈l,p x=false):l.any p=false:=by
 rw [List.any_eq_false]
 intro x hx
 simp [h x hx]
end
section
variable {X Y:Prop}
theorem cA {A:b7} {f:Nat} {l:List V} {h:aA} {K:V->aA->Prop} (g:X->A f l h K) (x:X):dF A f l h K:=⟨g x⟩
theorem yf {c:Bool} (h:c=false) (y:Y):aH c X Y:=.ff h y
theorem yt {c:Bool} (h:c=true) (x:X):aH c X Y:=.tt h x
theorem yo {β:Type} {o:Option β} {n:Prop} {k:β->Prop} {x:β} (h:o=some x) (hk:k x):bC o n k:=.of h hk
theorem yn {β:Type} {o:Option β} {n:Prop} {k:β->Prop} (h:o=none) (hn:n):bC o n k:=.no h hn
theorem ye {β:Type} {o:Option β} {k:β->Prop} {x:β} (h:o=some x) (hk:k x):cK o k:=.of h hk
theorem yc {c:Bool} (h:c=true) (x:X):aM c X:=⟨h,x⟩
theorem ys {v u:V} (h:v=u) (x:X):aT v u X:=⟨h,x⟩
theorem zdt {p:Prop} [Decidable p] (x:X) (h:p:=by omega):aH (decide p) X Y:=.dt h x
theorem zdf {p:Prop} [Decidable p] (y:Y) (h:¬p:=by omega):aH (decide p) X Y:=.df h y
theorem znt {p:Prop} [Decidable p] (x:X) (h:¬p:=by omega):aH (!decide p) X Y:=.nt h x
theorem znf {p:Prop} [Decidable p] (y:Y) (h:p:=by omega):aH (!decide p) X Y:=.nf h y
theorem zcd {p:Prop} [Decidable p] (k:X) (h:p:=by omega):aM (decide p) X:=.d h k
theorem zc3 {p q r:Prop} [Decidable p] [Decidable q] [Decidable r] (k:X) (h:p:=by omega) (h':q:=by omega) (h2:r:=by omega):aM (decide p&&decide q&&decide r) X:=.d3 h h' h2 k
theorem zci {i:Int} {n:Nat} (k:X) (h:0<=i:=by omega) (h':i<n:=by omega):aM (rH i n) X:=.ix h h' k
theorem zw {n:Int} {k:Int->Prop} (hk:k n) (h1:-9223372036854775808<=n:=by omega) (h2:n<=9223372036854775807:=by omega):aR .i64 n k:=.gA h1 h2 hk
end
theorem zz {X Y:Prop} (y:Y) (h:Y->X:=by first|exact yf rfl|exact yt rfl|exact yo rfl|exact yc rfl|exact ys rfl|exact ye rfl|exact yn rfl|exact fun y=>zw y|exact fun y=>zdt y|exact fun y=>zdf y|exact fun y=>znt y|exact fun y=>znf y|exact fun y=>zcd y|exact fun y=>zci y|exact fun y=>zc3 y):X:=h y
theorem Yl {cs ds:List V} (h:NwL cs ds:=by ((repeat (first|exact trivial|refine ⟨by first|exact qP rfl|exact .inl .nil|exact .inl .tok|exact .inl (.rows (by ((repeat (first|exact .nil|refine .cons (by ((repeat (first|exact .nil|refine .cons (by first|exact .refl _|exact .nil _) ?_));first|done|fail)) ?_));first|done|fail)))|exact .inr (.inl ⟨_,_,rfl,rfl,(by ((repeat (first|exact trivial|refine ⟨by first|exact jG rfl|exact .nil|exact .tok|exact .Cd rfl (Nat.le_of_ble_eq_true rfl)|exact .rows (by ((repeat (first|exact .nil|refine .cons (by ((repeat (first|exact .nil|refine .cons (by first|exact .refl _|exact .nil _) ?_));first|done|fail)) ?_));first|done|fail)),?_⟩));first|done|fail))⟩),?_⟩));first|done|fail)):NwL cs ds:=h
structure Bx (q:Prop):Prop where
 h:q
section
variable {a b c d e f g i p q:Prop}
theorem SD (u1:a) (u2:b) (u3:c) (u4:d) (u5:e) (u6:f) (u7:g) (u8:i) (h:q) (z:a->b->c->d->e->f->g->i->Bx q->p:=by (intro u1 u2 u3 u4 u5 u6 u7 u8 hq;(conv=>whnf);(repeat ((first|refine cK.of (by first|exact u1 ..|exact u2 ..|exact u3 ..|exact u4 ..|exact u5 ..|exact u6 ..|exact u7 ..|exact u8 ..|exact aF (by omega) u1|exact aF (by simp) u1|exact aF (by omega) u2|exact aF (by simp) u2|exact aF (by omega) u3|exact aF (by simp) u3|exact aF (by omega) u4|exact aF (by simp) u4|exact aF (by omega) u5|exact aF (by simp) u5|exact aF (by omega) u6|exact aF (by simp) u6|exact aF (by omega) u7|exact aF (by simp) u7|exact aF (by omega) u8|exact aF (by simp) u8) ?_|refine dF.app (fun x=>by first|(apply u1;exact x)|exact Pure.go u1 rfl x|exact Pure.any u1 rfl x|exact Pure.EV u1 Yl rfl x|(apply u2;exact x)|exact Pure.go u2 rfl x|exact Pure.any u2 rfl x|(apply u3;exact x)|exact Pure.go u3 rfl x|exact Pure.any u3 rfl x|(apply u4;exact x)|exact Pure.go u4 rfl x|exact Pure.any u4 rfl x|(apply u5;exact x)|exact Pure.go u5 rfl x|exact Pure.any u5 rfl x|(apply u6;exact x)|exact Pure.go u6 rfl x|exact Pure.any u6 rfl x|(apply u7;exact x)|exact Pure.go u7 rfl x|exact Pure.any u7 rfl x|(apply u8;exact x)|exact Pure.go u8 rfl x|exact Pure.any u8 rfl x) ?_|refine aH.tt (by first|exact u1 ..|exact u2 ..|exact u3 ..|exact u4 ..|exact u5 ..|exact u6 ..|exact u7 ..|exact u8 ..) ?_|refine aH.ff (by first|exact u1 ..|exact u2 ..|exact u3 ..|exact u4 ..|exact u5 ..|exact u6 ..|exact u7 ..|exact u8 ..) ?_|refine aH.dt (by first|exact u1 ..|exact u2 ..|exact u3 ..|exact u4 ..|exact u5 ..|exact u6 ..|exact u7 ..|exact u8 ..) ?_|refine aH.df (by first|exact u1 ..|exact u2 ..|exact u3 ..|exact u4 ..|exact u5 ..|exact u6 ..|exact u7 ..|exact u8 ..) ?_|refine aH.nt (by first|exact u1 ..|exact u2 ..|exact u3 ..|exact u4 ..|exact u5 ..|exact u6 ..|exact u7 ..|exact u8 ..) ?_|refine aH.nf (by first|exact u1 ..|exact u2 ..|exact u3 ..|exact u4 ..|exact u5 ..|exact u6 ..|exact u7 ..|exact u8 ..) ?_|refine aM.mk (by first|exact u1 ..|exact u2 ..|exact u3 ..|exact u4 ..|exact u5 ..|exact u6 ..|exact u7 ..|exact u8 ..) ?_|refine bC.of (by first|exact u1 ..|exact u2 ..|exact u3 ..|exact u4 ..|exact u5 ..|exact u6 ..|exact u7 ..|exact u8 ..) ?_|refine bC.no (by first|exact u1 ..|exact u2 ..|exact u3 ..|exact u4 ..|exact u5 ..|exact u6 ..|exact u7 ..|exact u8 ..) ?_|refine aT.mk (by first|exact u1 ..|exact u2 ..|exact u3 ..|exact u4 ..|exact u5 ..|exact u6 ..|exact u7 ..|exact u8 ..) ?_|refine zz ?_)<;>(conv=>whnf)));exact hq.1)):p:=z u1 u2 u3 u4 u5 u6 u7 u8 ⟨h⟩
theorem WM (u1:a) (u2:b) (u3:c) (u4:d) (u5:e) (u6:f) (u7:g) (u8:i) (h:q) (z:a->b->c->d->e->f->g->i->Bx q->p:=by (intro u1 u2 u3 u4 u5 u6 u7 u8 hq;(conv=>whnf);(repeat ((first|refine cK.of (by first|exact u1 ..|exact u2 ..|exact u3 ..|exact u4 ..|exact u5 ..|exact u6 ..|exact u7 ..|exact u8 ..|exact aF (by omega) u1|exact aF (by simp) u1|exact aF (by omega) u2|exact aF (by simp) u2|exact aF (by omega) u3|exact aF (by simp) u3|exact aF (by omega) u4|exact aF (by simp) u4|exact aF (by omega) u5|exact aF (by simp) u5|exact aF (by omega) u6|exact aF (by simp) u6|exact aF (by omega) u7|exact aF (by simp) u7|exact aF (by omega) u8|exact aF (by simp) u8) ?_|refine dF.app (fun x=>by first|(apply u1;exact x)|exact Pure.go u1 rfl x|exact Pure.any u1 rfl x|exact Pure.EV u1 Yl rfl x|(apply u2;exact x)|exact Pure.go u2 rfl x|exact Pure.any u2 rfl x|(apply u3;exact x)|exact Pure.go u3 rfl x|exact Pure.any u3 rfl x|(apply u4;exact x)|exact Pure.go u4 rfl x|exact Pure.any u4 rfl x|(apply u5;exact x)|exact Pure.go u5 rfl x|exact Pure.any u5 rfl x|(apply u6;exact x)|exact Pure.go u6 rfl x|exact Pure.any u6 rfl x|(apply u7;exact x)|exact Pure.go u7 rfl x|exact Pure.any u7 rfl x|(apply u8;exact x)|exact Pure.go u8 rfl x|exact Pure.any u8 rfl x) ?_|refine aH.tt (by first|exact u1 ..|exact u2 ..|exact u3 ..|exact u4 ..|exact u5 ..|exact u6 ..|exact u7 ..|exact u8 ..) ?_|refine aH.ff (by first|exact u1 ..|exact u2 ..|exact u3 ..|exact u4 ..|exact u5 ..|exact u6 ..|exact u7 ..|exact u8 ..) ?_|refine aH.dt (by first|exact u1 ..|exact u2 ..|exact u3 ..|exact u4 ..|exact u5 ..|exact u6 ..|exact u7 ..|exact u8 ..) ?_|refine aH.df (by first|exact u1 ..|exact u2 ..|exact u3 ..|exact u4 ..|exact u5 ..|exact u6 ..|exact u7 ..|exact u8 ..) ?_|refine aH.nt (by first|exact u1 ..|exact u2 ..|exact u3 ..|exact u4 ..|exact u5 ..|exact u6 ..|exact u7 ..|exact u8 ..) ?_|refine aH.nf (by first|exact u1 ..|exact u2 ..|exact u3 ..|exact u4 ..|exact u5 ..|exact u6 ..|exact u7 ..|exact u8 ..) ?_|refine aM.mk (by first|exact u1 ..|exact u2 ..|exact u3 ..|exact u4 ..|exact u5 ..|exact u6 ..|exact u7 ..|exact u8 ..) ?_|refine bC.of (by first|exact u1 ..|exact u2 ..|exact u3 ..|exact u4 ..|exact u5 ..|exact u6 ..|exact u7 ..|exact u8 ..) ?_|refine bC.no (by first|exact u1 ..|exact u2 ..|exact u3 ..|exact u4 ..|exact u5 ..|exact u6 ..|exact u7 ..|exact u8 ..) ?_|refine aT.mk (by first|exact u1 ..|exact u2 ..|exact u3 ..|exact u4 ..|exact u5 ..|exact u6 ..|exact u7 ..|exact u8 ..) ?_|refine dF.app (fun x=>by first|exact jX (u1 _ _ rfl) rfl x|exact jX (u2 _ _ rfl) rfl x|exact jX (u3 _ _ rfl) rfl x|exact jX (u4 _ _ rfl) rfl x|exact jX (u5 _ _ rfl) rfl x|exact jX (u6 _ _ rfl) rfl x|exact jX (u7 _ _ rfl) rfl x|exact jX (u8 _ _ rfl) rfl x) ?_|refine zz ?_|refine aR.wu (by omega) (by omega) ?_|refine aR.of (by decide) (by decide) ?_|refine aH.tt (decide_eq_true rfl) ?_|refine cK.of (aA.aD (aA.aB _ _)) ?_|refine aM.mk (by simp [bT];omega) ?_|refine aH.dt (by simp only [List.length_map,List.length_cons,List.length_nil,List.length_append];omega) ?_|refine aH.df (by simp only [List.length_map,List.length_cons,List.length_nil,List.length_append];omega) ?_)<;>(conv=>whnf)));exact hq.1)):p:=z u1 u2 u3 u4 u5 u6 u7 u8 ⟨h⟩
theorem zx7 (u1:a) (u2:b) (u3:c) (u4:d) (u5:e) (u6:f) (u7:g) (h:q) (z:a->b->c->d->e->f->g->Bx q->p:=by exact fun u1 u2 u3 u4 u5 u6 u7 h=>WM u1 u2 u3 u4 u5 u6 u7 trivial h.1):p:=z u1 u2 u3 u4 u5 u6 u7 ⟨h⟩
theorem zx6 (u1:a) (u2:b) (u3:c) (u4:d) (u5:e) (u6:f) (h:q) (z:a->b->c->d->e->f->Bx q->p:=by exact fun u1 u2 u3 u4 u5 u6 h=>WM u1 u2 u3 u4 u5 u6 trivial trivial h.1):p:=z u1 u2 u3 u4 u5 u6 ⟨h⟩
theorem zx5 (u1:a) (u2:b) (u3:c) (u4:d) (u5:e) (h:q) (z:a->b->c->d->e->Bx q->p:=by exact fun u1 u2 u3 u4 u5 h=>WM u1 u2 u3 u4 u5 trivial trivial trivial h.1):p:=z u1 u2 u3 u4 u5 ⟨h⟩
theorem zx4 (u1:a) (u2:b) (u3:c) (u4:d) (h:q) (z:a->b->c->d->Bx q->p:=by exact fun u1 u2 u3 u4 h=>WM u1 u2 u3 u4 trivial trivial trivial trivial h.1):p:=z u1 u2 u3 u4 ⟨h⟩
theorem zx3 (u1:a) (u2:b) (u3:c) (h:q) (z:a->b->c->Bx q->p:=by exact fun u1 u2 u3 h=>WM u1 u2 u3 trivial trivial trivial trivial trivial h.1):p:=z u1 u2 u3 ⟨h⟩
theorem zx2 (u1:a) (u2:b) (h:q) (z:a->b->Bx q->p:=by exact fun u1 u2 h=>WM u1 u2 trivial trivial trivial trivial trivial trivial h.1):p:=z u1 u2 ⟨h⟩
theorem zx1 (u1:a) (h:q) (z:a->Bx q->p:=by exact fun u1 h=>WM u1 trivial trivial trivial trivial trivial trivial trivial h.1):p:=z u1 ⟨h⟩
theorem zx0 (h:q) (z:Bx q->p:=by exact fun h=>WM trivial trivial trivial trivial trivial trivial trivial trivial h.1):p:=z ⟨h⟩
theorem zr7 (u1:a) (u2:b) (u3:c) (u4:d) (u5:e) (u6:f) (u7:g) (h:q) (z:a->b->c->d->e->f->g->Bx q->p:=by exact fun u1 u2 u3 u4 u5 u6 u7 h=>SD u1 u2 u3 u4 u5 u6 u7 trivial h.1):p:=z u1 u2 u3 u4 u5 u6 u7 ⟨h⟩
theorem WN (u1:a) (u2:b) (u3:c) (u4:d) (u5:e) (u6:f) (h:q) (z:a->b->c->d->e->f->Bx q->p:=by exact fun u1 u2 u3 u4 u5 u6 h=>SD u1 u2 u3 u4 u5 u6 trivial trivial h.1):p:=z u1 u2 u3 u4 u5 u6 ⟨h⟩
theorem IV (u1:a) (u2:b) (u3:c) (u4:d) (u5:e) (h:q) (z:a->b->c->d->e->Bx q->p:=by exact fun u1 u2 u3 u4 u5 h=>SD u1 u2 u3 u4 u5 trivial trivial trivial h.1):p:=z u1 u2 u3 u4 u5 ⟨h⟩
theorem N9 (u1:a) (u2:b) (u3:c) (u4:d) (h:q) (z:a->b->c->d->Bx q->p:=by exact fun u1 u2 u3 u4 h=>SD u1 u2 u3 u4 trivial trivial trivial trivial h.1):p:=z u1 u2 u3 u4 ⟨h⟩
theorem qR (u1:a) (u2:b) (u3:c) (h:q) (z:a->b->c->Bx q->p:=by exact fun u1 u2 u3 h=>SD u1 u2 u3 trivial trivial trivial trivial trivial h.1):p:=z u1 u2 u3 ⟨h⟩
theorem iG (u1:a) (u2:b) (h:q) (z:a->b->Bx q->p:=by exact fun u1 u2 h=>SD u1 u2 trivial trivial trivial trivial trivial trivial h.1):p:=z u1 u2 ⟨h⟩
theorem cD (u1:a) (h:q) (z:a->Bx q->p:=by exact fun u1 h=>SD u1 trivial trivial trivial trivial trivial trivial trivial h.1):p:=z u1 ⟨h⟩
theorem zr (h:q) (z:Bx q->p:=by (intro hq;(conv=>whnf);(repeat (refine zz ?_<;>(conv=>whnf)));exact hq.1)):p:=z ⟨h⟩
end
theorem cT {f g:Fr} (h:Fr.le f g:=by repeat (first|exact Fr.le_nil|refine Fr.U3 rfl ?_)):Fr.le f g:=h
theorem yZ {ρ:Ren} {b:qM} {F:Fz} {cs ds:List V} (h:Ah ρ b F cs ds:=by ((repeat (first|exact trivial|refine ⟨by first|exact jG rfl|exact .nil|exact .tok|exact .Cd rfl (Nat.le_of_ble_eq_true rfl)|exact .rows (by ((repeat (first|exact .nil|refine .cons (by ((repeat (first|exact .nil|refine .cons (by first|exact .refl _|exact .nil _) ?_));first|done|fail)) ?_));first|done|fail)),?_⟩));first|done|fail)):Ah ρ b F cs ds:=h
theorem SE {n:Nat} {x:aL} {es:List aL} (hn:n=es.length):List.drop 0 (List.take (0+n) (es.map aI))++[aI x]=(es++[x]).map aI:=by
 subst hn
 rw [Nat.zero_add,List.drop_zero,List.take_of_length_le (by rw [List.length_map];exact Nat.le_refl _),List.map_append]
 rfl
theorem wM {ρ:Ren} {b:qM} {F:Fz} {n:Nat} {x:aL} {es:List aL} (hn:n=es.length):Kt ρ b F (List.drop 0 (List.take (0+n) (es.map aI))++[aI x]) ((es++[x]).map aI):=by
 rw [SE hn]
 exact mH (fun _=>rfl) _
def tB (l:List Int):List (V×V):=l.map fun n=>(V.i .i64 n,V.b true)
theorem tC {ρ:Ren} {b:qM} {F:Fz}:∀ l:List Int,ZE ρ b F (tB l) (tB l)
 |[]=>trivial
 |_::r=>⟨⟨rfl,qP rfl⟩,tC r⟩
theorem Ak {fr cF:Fr} {st:St} (hf:CN WL ⟨0,0⟩ gG cF fr:=by repeat (first|exact CN.nil|refine CN.cons (by first|exact wI rfl|exact tA|exact A6) ?_)):IQ fr st cF (dP iJ):=ahZ hf
theorem tL (ks:List Nat) {n:Nat} {tP:List (Nat×Obj)} {fr cF:Fr} {st:St} (hn:ks.length=n:=by rfl) (hd:ks.Nodup:=by decide) (hl:yY ⟨id,fun i=>ks.getD i 0⟩ gG .l (fun i=>ks.getD i 0) n ⟨0,n⟩ st.l tP:=by ((repeat (first|exact trivial|refine ⟨⟨Nat.le_of_ble_eq_true rfl,rfl,_,rfl,by first|exact trivial|exact ⟨rfl,trivial⟩|exact gH rfl|exact ⟨rfl,mH (fun _=>rfl) _⟩|exact ⟨rfl,gH rfl,trivial⟩|exact ⟨rfl,tC _⟩|exact ⟨rfl,wM (by assumption)⟩|exact (by ((repeat (first|exact trivial|refine ⟨by first|exact jG rfl|exact .nil|exact .tok|exact .Cd rfl (Nat.le_of_ble_eq_true rfl)|exact .rows (by ((repeat (first|exact .nil|refine .cons (by ((repeat (first|exact .nil|refine .cons (by first|exact .refl _|exact .nil _) ?_));first|done|fail)) ?_));first|done|fail)),?_⟩));first|done|fail))⟩,?_⟩));first|done|fail)) (hf:CN ⟨id,fun i=>ks.getD i 0⟩ ⟨0,n⟩ gG cF fr:=by repeat (first|exact CN.nil|refine CN.cons (by first|exact wI rfl|exact SA rfl (Nat.le_of_ble_eq_true rfl)|exact IS rfl (Nat.le_of_ble_eq_true rfl)|exact tA|exact A6) ?_)):
 IQ fr st cF ⟨iJ,⟨n,tP⟩⟩:=ah0 ks hn hd hl hf
theorem tG (gs ls:List Nat) {n m:Nat} {wJ wK:List (Nat×Obj)} {fr cF:Fr} {st:St} (hn:gs.length=n:=by rfl) (hm:ls.length=m:=by rfl) (hd:gs.Nodup:=by decide) (he:ls.Nodup:=by decide)
 (hg:yY ⟨fun i=>gs.getD i 0,fun i=>ls.getD i 0⟩ gG .g (fun i=>gs.getD i 0) n ⟨n,0⟩ st.g wJ:=by ((repeat (first|exact trivial|refine ⟨⟨Nat.le_of_ble_eq_true rfl,rfl,_,rfl,by first|exact trivial|exact ⟨rfl,trivial⟩|exact gH rfl|exact ⟨rfl,mH (fun _=>rfl) _⟩|exact ⟨rfl,gH rfl,trivial⟩|exact ⟨rfl,tC _⟩|exact ⟨rfl,wM (by assumption)⟩|exact (by ((repeat (first|exact trivial|refine ⟨by first|exact jG rfl|exact .nil|exact .tok|exact .Cd rfl (Nat.le_of_ble_eq_true rfl)|exact .rows (by ((repeat (first|exact .nil|refine .cons (by ((repeat (first|exact .nil|refine .cons (by first|exact .refl _|exact .nil _) ?_));first|done|fail)) ?_));first|done|fail)),?_⟩));first|done|fail))⟩,?_⟩));first|done|fail)) (hl:yY ⟨fun i=>gs.getD i 0,fun i=>ls.getD i 0⟩ gG .l (fun i=>ls.getD i 0) m ⟨n,m⟩ st.l wK:=by ((repeat (first|exact trivial|refine ⟨⟨Nat.le_of_ble_eq_true rfl,rfl,_,rfl,by first|exact trivial|exact ⟨rfl,trivial⟩|exact gH rfl|exact ⟨rfl,mH (fun _=>rfl) _⟩|exact ⟨rfl,gH rfl,trivial⟩|exact ⟨rfl,tC _⟩|exact ⟨rfl,wM (by assumption)⟩|exact (by ((repeat (first|exact trivial|refine ⟨by first|exact jG rfl|exact .nil|exact .tok|exact .Cd rfl (Nat.le_of_ble_eq_true rfl)|exact .rows (by ((repeat (first|exact .nil|refine .cons (by ((repeat (first|exact .nil|refine .cons (by first|exact .refl _|exact .nil _) ?_));first|done|fail)) ?_));first|done|fail)),?_⟩));first|done|fail))⟩,?_⟩));first|done|fail))
 (hf:CN ⟨fun i=>gs.getD i 0,fun i=>ls.getD i 0⟩ ⟨n,m⟩ gG cF fr:=by ((repeat (first|exact CN.nil|refine CN.cons (by first|exact wI rfl|exact SA rfl (Nat.le_of_ble_eq_true rfl)|exact SB rfl (Nat.le_of_ble_eq_true rfl)|exact WK rfl (Nat.le_of_ble_eq_true rfl)|exact IS rfl (Nat.le_of_ble_eq_true rfl)|exact tA|exact A6|exact .inl (.inl (.rows (by ((repeat (first|exact .nil|refine .cons (by ((repeat (first|exact .nil|refine .cons (by first|exact .refl _|exact .nil _) ?_));first|done|fail)) ?_));first|done|fail))))|exact .inl (.inr (.inl ⟨_,_,rfl,rfl,(by ((repeat (first|exact trivial|refine ⟨by first|exact jG rfl|exact .nil|exact .tok|exact .Cd rfl (Nat.le_of_ble_eq_true rfl)|exact .rows (by ((repeat (first|exact .nil|refine .cons (by ((repeat (first|exact .nil|refine .cons (by first|exact .refl _|exact .nil _) ?_));first|done|fail)) ?_));first|done|fail)),?_⟩));first|done|fail))⟩))) ?_));first|done|fail)):IQ fr st cF ⟨⟨n,wJ⟩,⟨m,wK⟩⟩:=acD gs ls hn hm hd he hg hl hf
open Go
def gQ {α:Type} (p:α->Bool) (l:List α):Int:=
 match l.findIdx? p with
 |some j=>j
 |none=>-1
theorem dD {α:Type} {p:α->Bool} {l:List α} {i:Nat} {e:α} (he:l[i]? =some e) (hp:p e=true) (hb:∀ (j:Nat) (x:α),j<i->l[j]? =some x->p x=false):gQ p l=i:=by
 have:l.findIdx? p=some i:=by
  rw [List.findIdx?_eq_some_iff_getElem]
  obtain ⟨h,rfl⟩:=List.getElem?_eq_some_iff.1 he
  exact ⟨h,hp,fun j hj=>by simpa using hb j _ hj (List.getElem?_eq_getElem (by omega))⟩
 rw [gQ,this]
theorem dN {α:Type} {p:α->Bool} {l:List α} (hb:∀ (j:Nat) (x:α),l[j]? =some x->p x=false):gQ p l=-1:=by
 have:l.findIdx? p=none:=by
  rw [List.findIdx?_eq_none_iff]
  intro x hx
  obtain ⟨j,hj⟩:=List.mem_iff_getElem?.1 hx
  exact hb j x hj
 rw [gQ,this]
theorem kC {α:Type} {p:α->Bool} {l:List α}:decide (gQ p l>=0)=l.any p:=by
 unfold gQ
 cases h:l.findIdx? p with
 |none=>
  rw [List.findIdx?_eq_none_iff] at h
  have:l.any p=false:=by rw [List.any_eq_false];intro x hx;simp [h x hx]
  rw [this]
  rfl
 |some j=>
  rw [List.findIdx?_eq_some_iff_getElem] at h
  obtain ⟨hj,hp,_⟩:=h
  have:l.any p=true:=List.any_eq_true.2 ⟨_,List.getElem_mem hj,hp⟩
  rw [this]
  exact decide_eq_true (Int.natCast_nonneg j)
def jH (sz:Nat) (n:Option Nat):aZ:=⟨2,(.seq (.BE [⟨(some 4),.Nv (.c (.i .i64 0)),none,[4]⟩])
 (.seq (.seq (.BE [⟨(some 6),.mv (.t 0),none,[]⟩,
 ⟨(some 7),.Gb (.t 6),none,[6]⟩,
 ⟨(some 8),.mv (.c (.i .i64 0)),none,[]⟩])
 (.bS 0 (.loop (.seq (.BE [⟨(some 9),.bin .lss (.t 8) (.t 7),none,[]⟩])
 (.seq (.cond (.t 9) .skip
 (.exit 0))
 (.seq (.bS 1 (.seq (.BE [⟨(some 10),.mv (.t 8),none,[]⟩,
 ⟨(some 5),.Nv (.t 10),none,[10]⟩])
 (.seq (.BE [⟨(some 11),.mv (.t 1),none,[]⟩,
 ⟨(some 12),.mv (.t 0),none,[]⟩,
 ⟨(some 13),.mv (.t 5),none,[]⟩,
 ⟨(some 14),.Ga sz (.t 12) (.t 13),none,[12,13]⟩,
 ⟨(some 15),.load n (.t 14),none,[14]⟩,
 ⟨(some 16),.y8 (.t 11) [(.t 15)],none,[11,15]⟩])
 (.cond (.t 16) (.seq (.BE [⟨(some 17),.mv (.t 5),none,[5]⟩,
 ⟨(some 4),.Nv (.t 17),none,[17]⟩])
 .ret)
 .skip))))
 (.BE [⟨(some 18),.bin .add (.t 8) (.c (.i .i64 1)),none,[8]⟩,
 ⟨(some 8),.mv (.t 18),none,[18]⟩])))))))
 (.seq (.BE [⟨(some 4),.Nv (.c (.i .i64 (-1))),none,[]⟩])
 .ret))),[.t 4]⟩
theorem Pt {P:Program} {f:Nat} (hk:gU P f (jH 3 (some 3))=true) {l:List cM} {g:Nat} {k:Nat} {h:aA} {p:cM->Bool} (hl:l.length<=9223372036854775807)
 (hg:∀ e∈l,∀ K:V->aA->Prop,K (.b (p e)) h->aC P g (.agg (bA e)::[.p (.g k) 0]) h K) {K:V->aA->Prop} (hK:K (.i .i64 (gQ p l)) h):aC P f [.sl none 3 (l.map bA),.fn g [] [.p (.g k) 0]] h K:=by
 have gK:(l.map bA).length=l.length:=List.length_map _
 refine aQ hk rfl ?_
 ((conv=>whnf);repeat ((first|refine aH.ff rfl ?_|refine aH.tt rfl ?_|refine bC.of rfl ?_|refine aM.mk rfl ?_|refine aT.mk rfl ?_|refine cK.of rfl ?_)<;>(conv=>whnf)))
 refine b8.by (fun q fr st=>∃ i:Nat,i<=l.length/\q=l.length - i/\(∀ (j:Nat) (e:cM),j<i->l[j]? =some e->p e=false)/\Fr.le [(8,.i .i64 i),(7,.i .i64 (l.map bA).length),(1,.fn g [] [.p (.g k) 0]),(0,.sl none 3 (l.map bA))] fr/\st=dP h)
  l.length ⟨0,Nat.zero_le _,rfl,fun j e hj=>absurd hj (Nat.not_lt_zero _),cT,rfl⟩ ?_
 rintro q fr st ⟨i,hi,rfl,dW,hle,rfl⟩
 refine ⟨_,hle,fun R hR=>?_⟩
 ((conv=>whnf);repeat ((first|refine aH.ff rfl ?_|refine aH.tt rfl ?_|refine bC.of rfl ?_|refine aM.mk rfl ?_|refine aT.mk rfl ?_|refine cK.of rfl ?_)<;>(conv=>whnf)))
 refine aH.ds (fun cO=>?_) (fun fE=>?_)
 · have cZ:i<l.length:=by omega
   have he:=List.getElem?_eq_getElem cZ
   have hm:=List.getElem_mem cZ
   generalize l[i]=e at he hm
   ((conv=>whnf);repeat ((first|refine aM.ix (by omega) (by omega) ?_|refine aH.ff rfl ?_|refine aH.tt rfl ?_|refine bC.of rfl ?_|refine aM.mk rfl ?_|refine aT.mk rfl ?_|refine cK.of (aF (by simp) he) ?_|refine cK.of rfl ?_)<;>(conv=>whnf)))
   refine dF.mk (hg e hm _ ?_)
   ((conv=>whnf);repeat ((first|refine aH.ff rfl ?_|refine aH.tt rfl ?_|refine bC.of rfl ?_|refine aM.mk rfl ?_|refine aT.mk rfl ?_|refine cK.of rfl ?_)<;>(conv=>whnf)))
   refine aH.mk (fun hp=>?_) (fun hp=>?_)
   · ((conv=>whnf);repeat ((first|refine aH.ff rfl ?_|refine aH.tt rfl ?_|refine bC.of rfl ?_|refine aM.mk rfl ?_|refine aT.mk rfl ?_|refine cK.of rfl ?_)<;>(conv=>whnf)))
     rw [dD he hp dW] at hK
     exact hK
   · ((conv=>whnf);repeat ((first|refine aR.gA (by omega) (by omega) ?_|refine aH.ff rfl ?_|refine aH.tt rfl ?_|refine bC.of rfl ?_|refine aM.mk rfl ?_|refine aT.mk rfl ?_|refine cK.of rfl ?_)<;>(conv=>whnf)))
     refine hR (l.length - (i+1)) _ _ (by omega) ⟨i+1,by omega,rfl,fun j x hj hx=>?_,cT,rfl⟩
     by_cases zE:j<i
     · exact dW j x zE hx
     · obtain rfl:j=i:=by omega
       rw [he] at hx;cases hx;exact hp
 · ((conv=>whnf);repeat ((first|refine aH.ff rfl ?_|refine aH.tt rfl ?_|refine bC.of rfl ?_|refine aM.mk rfl ?_|refine aT.mk rfl ?_|refine cK.of rfl ?_)<;>(conv=>whnf)))
   rw [dN fun j x hx=>dW j x (by have:=(List.getElem?_eq_some_iff.1 hx).1;omega) hx] at hK
   exact hK
theorem SF {P:Program} {f:Nat} (hk:gU P f (jH 3 (some 3))=true) {l:List lC} {g:Nat} {k:Nat} {h:aA} {p:lC->Bool} (hl:l.length<=9223372036854775807)
 (hg:∀ e∈l,∀ K:V->aA->Prop,K (.b (p e)) h->aC P g (.agg (eP e)::[.p (.g k) 0]) h K) {K:V->aA->Prop} (hK:K (.i .i64 (gQ p l)) h):aC P f [.sl none 3 (l.map eP),.fn g [] [.p (.g k) 0]] h K:=by
 have gK:(l.map eP).length=l.length:=List.length_map _
 refine aQ hk rfl ?_
 ((conv=>whnf);repeat ((first|refine aH.ff rfl ?_|refine aH.tt rfl ?_|refine bC.of rfl ?_|refine aM.mk rfl ?_|refine aT.mk rfl ?_|refine cK.of rfl ?_)<;>(conv=>whnf)))
 refine b8.by (fun q fr st=>∃ i:Nat,i<=l.length/\q=l.length - i/\(∀ (j:Nat) (e:lC),j<i->l[j]? =some e->p e=false)/\Fr.le [(8,.i .i64 i),(7,.i .i64 (l.map eP).length),(1,.fn g [] [.p (.g k) 0]),(0,.sl none 3 (l.map eP))] fr/\st=dP h)
  l.length ⟨0,Nat.zero_le _,rfl,fun j e hj=>absurd hj (Nat.not_lt_zero _),cT,rfl⟩ ?_
 rintro q fr st ⟨i,hi,rfl,dW,hle,rfl⟩
 refine ⟨_,hle,fun R hR=>?_⟩
 ((conv=>whnf);repeat ((first|refine aH.ff rfl ?_|refine aH.tt rfl ?_|refine bC.of rfl ?_|refine aM.mk rfl ?_|refine aT.mk rfl ?_|refine cK.of rfl ?_)<;>(conv=>whnf)))
 refine aH.ds (fun cO=>?_) (fun fE=>?_)
 · have cZ:i<l.length:=by omega
   have he:=List.getElem?_eq_getElem cZ
   have hm:=List.getElem_mem cZ
   generalize l[i]=e at he hm
   ((conv=>whnf);repeat ((first|refine aM.ix (by omega) (by omega) ?_|refine aH.ff rfl ?_|refine aH.tt rfl ?_|refine bC.of rfl ?_|refine aM.mk rfl ?_|refine aT.mk rfl ?_|refine cK.of (aF (by simp) he) ?_|refine cK.of rfl ?_)<;>(conv=>whnf)))
   refine dF.mk (hg e hm _ ?_)
   ((conv=>whnf);repeat ((first|refine aH.ff rfl ?_|refine aH.tt rfl ?_|refine bC.of rfl ?_|refine aM.mk rfl ?_|refine aT.mk rfl ?_|refine cK.of rfl ?_)<;>(conv=>whnf)))
   refine aH.mk (fun hp=>?_) (fun hp=>?_)
   · ((conv=>whnf);repeat ((first|refine aH.ff rfl ?_|refine aH.tt rfl ?_|refine bC.of rfl ?_|refine aM.mk rfl ?_|refine aT.mk rfl ?_|refine cK.of rfl ?_)<;>(conv=>whnf)))
     rw [dD he hp dW] at hK
     exact hK
   · ((conv=>whnf);repeat ((first|refine aR.gA (by omega) (by omega) ?_|refine aH.ff rfl ?_|refine aH.tt rfl ?_|refine bC.of rfl ?_|refine aM.mk rfl ?_|refine aT.mk rfl ?_|refine cK.of rfl ?_)<;>(conv=>whnf)))
     refine hR (l.length - (i+1)) _ _ (by omega) ⟨i+1,by omega,rfl,fun j x hj hx=>?_,cT,rfl⟩
     by_cases zE:j<i
     · exact dW j x zE hx
     · obtain rfl:j=i:=by omega
       rw [he] at hx;cases hx;exact hp
 · ((conv=>whnf);repeat ((first|refine aH.ff rfl ?_|refine aH.tt rfl ?_|refine bC.of rfl ?_|refine aM.mk rfl ?_|refine aT.mk rfl ?_|refine cK.of rfl ?_)<;>(conv=>whnf)))
   rw [dN fun j x hx=>dW j x (by have:=(List.getElem?_eq_some_iff.1 hx).1;omega) hx] at hK
   exact hK
theorem SG {P:Program} {f:Nat} (hk:gU P f (jH 1 none)=true) {l:List Int} {g:Nat} {k:Nat} {h:aA} {p:Int->Bool} (hl:l.length<=9223372036854775807)
 (hg:∀ e∈l,∀ K:V->aA->Prop,K (.b (p e)) h->aC P g (.i .i64 e::[.p (.g k) 0]) h K) {K:V->aA->Prop} (hK:K (.i .i64 (gQ p l)) h):aC P f [.sl none 1 (l.map fA),.fn g [] [.p (.g k) 0]] h K:=by
 have gK:(l.map fA).length=l.length:=List.length_map _
 refine aQ hk rfl ?_
 ((conv=>whnf);repeat ((first|refine aH.ff rfl ?_|refine aH.tt rfl ?_|refine bC.of rfl ?_|refine aM.mk rfl ?_|refine aT.mk rfl ?_|refine cK.of rfl ?_)<;>(conv=>whnf)))
 refine b8.by (fun q fr st=>∃ i:Nat,i<=l.length/\q=l.length - i/\(∀ (j:Nat) (e:Int),j<i->l[j]? =some e->p e=false)/\Fr.le [(8,.i .i64 i),(7,.i .i64 (l.map fA).length),(1,.fn g [] [.p (.g k) 0]),(0,.sl none 1 (l.map fA))] fr/\st=dP h)
  l.length ⟨0,Nat.zero_le _,rfl,fun j e hj=>absurd hj (Nat.not_lt_zero _),cT,rfl⟩ ?_
 rintro q fr st ⟨i,hi,rfl,dW,hle,rfl⟩
 refine ⟨_,hle,fun R hR=>?_⟩
 ((conv=>whnf);repeat ((first|refine aH.ff rfl ?_|refine aH.tt rfl ?_|refine bC.of rfl ?_|refine aM.mk rfl ?_|refine aT.mk rfl ?_|refine cK.of rfl ?_)<;>(conv=>whnf)))
 refine aH.ds (fun cO=>?_) (fun fE=>?_)
 · have cZ:i<l.length:=by omega
   have he:=List.getElem?_eq_getElem cZ
   have hm:=List.getElem_mem cZ
   generalize l[i]=e at he hm
   ((conv=>whnf);repeat ((first|refine aM.ix (by omega) (by omega) ?_|refine aH.ff rfl ?_|refine aH.tt rfl ?_|refine bC.of rfl ?_|refine aM.mk rfl ?_|refine aT.mk rfl ?_|refine cK.of (aF (by simp) he) ?_|refine cK.of rfl ?_)<;>(conv=>whnf)))
   refine dF.mk (hg e hm _ ?_)
   ((conv=>whnf);repeat ((first|refine aH.ff rfl ?_|refine aH.tt rfl ?_|refine bC.of rfl ?_|refine aM.mk rfl ?_|refine aT.mk rfl ?_|refine cK.of rfl ?_)<;>(conv=>whnf)))
   refine aH.mk (fun hp=>?_) (fun hp=>?_)
   · ((conv=>whnf);repeat ((first|refine aH.ff rfl ?_|refine aH.tt rfl ?_|refine bC.of rfl ?_|refine aM.mk rfl ?_|refine aT.mk rfl ?_|refine cK.of rfl ?_)<;>(conv=>whnf)))
     rw [dD he hp dW] at hK
     exact hK
   · ((conv=>whnf);repeat ((first|refine aR.gA (by omega) (by omega) ?_|refine aH.ff rfl ?_|refine aH.tt rfl ?_|refine bC.of rfl ?_|refine aM.mk rfl ?_|refine aT.mk rfl ?_|refine cK.of rfl ?_)<;>(conv=>whnf)))
     refine hR (l.length - (i+1)) _ _ (by omega) ⟨i+1,by omega,rfl,fun j x hj hx=>?_,cT,rfl⟩
     by_cases zE:j<i
     · exact dW j x zE hx
     · obtain rfl:j=i:=by omega
       rw [he] at hx;cases hx;exact hp
 · ((conv=>whnf);repeat ((first|refine aH.ff rfl ?_|refine aH.tt rfl ?_|refine bC.of rfl ?_|refine aM.mk rfl ?_|refine aT.mk rfl ?_|refine cK.of rfl ?_)<;>(conv=>whnf)))
   rw [dN fun j x hx=>dW j x (by have:=(List.getElem?_eq_some_iff.1 hx).1;omega) hx] at hK
   exact hK
open Go
def oI (x y:Int):Int:=if y<x then y else x
def mW (x y:Int):Int:=if x<y then y else x
theorem WO {x y z:Int} (h:(if y<x then y else x)=z):iQ false (.i .i64 x) [.i .i64 y]=some (.i .i64 z):=by simp [iQ,h]
theorem Vk {x y z:Int} (h:(if x<y then y else x)=z):iQ true (.i .i64 x) [.i .i64 y]=some (.i .i64 z):=by simp [iQ,h]
end Go.Eng
