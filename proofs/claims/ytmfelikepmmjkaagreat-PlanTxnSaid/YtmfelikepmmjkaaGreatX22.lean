/-
Memory told anew: objects under other numbers, those that nobody names left out, rows that are never written again laid open.
-/
import Derived.Test.YtmfelikepmmjkaaGreatX21
set_option linter.unusedVariables false
set_option linter.unusedSimpArgs false
namespace Go.Eng
open Go
abbrev Fz:=Key->Option (Nat×List (List V))
def gG:Fz:=fun _=>none
mutual
inductive Nd:V->V->Prop where
 |refl (v:V):Nd v v
 |nil (sz:Nat):Nd .aS (.sl none sz [])
 |sl {sz:Nat} {es ds:List (List V)} (h:Df es ds):Nd (.sl none sz es) (.sl none sz ds)
inductive N7:List V->List V->Prop where
 |nil:N7 [] []
 |cons {u v:V} {r q:List V} (h:Nd u v) (t:N7 r q):N7 (u::r) (v::q)
inductive Df:List (List V)->List (List V)->Prop where
 |nil:Df [] []
 |cons {u v:List V} {r q:List (List V)} (h:N7 u v) (t:Df r q):Df (u::r) (v::q)
end
theorem N7.append:∀ {l q l' q':List V},N7 l q->N7 l' q'->N7 (l++l') (q++q')
 |[],_,_,_,.nil,h=>h
 |_::_,_,_,_,.cons h t,h'=>.cons h (t.append h')
theorem Df.flat:∀ {l q:List (List V)},Df l q->N7 l.flatten q.flatten
 |[],_,.nil=>.nil
 |_::_,_,.cons h t=>by rw [List.flatten_cons,List.flatten_cons];exact h.append t.flat
theorem N7.spec:∀ {l q:List V},N7 l q->q.length=l.length/\∀ (j:Nat) (v:V),q[j]? =some v->∃ u,l[j]? =some u/\Nd u v
 |[],_,.nil=>⟨rfl,fun j v h=>by simp at h⟩
 |u::r,_,.cons h t=>by
  obtain ⟨h1,h2⟩:=N7.spec t
  refine ⟨by simp [h1],fun j w hj=>?_⟩
  cases j with
  |zero=>simp at hj;subst hj;exact ⟨u,rfl,h⟩
  |succ j=>obtain ⟨x,h3,h4⟩:=h2 j w (by simpa using hj);exact ⟨x,by simpa using h3,h4⟩
theorem Df.len {sz:Nat}:∀ {l q:List (List V)},Df l q->(∀ e∈l,e.length=sz)->q.length=l.length/\∀ e∈q,e.length=sz
 |[],_,.nil,_=>⟨rfl,fun e he=>by cases he⟩
 |_::_,_,.cons h t,hl=>by
  obtain ⟨h1,h2⟩:=t.len (fun e he=>hl e (.tail _ he))
  refine ⟨by simp [h1],fun e he=>?_⟩
  cases he with
  |head=>rw [h.spec.1];exact hl _ (.head _)
  |tail _ he=>exact h2 e he
theorem fF.nd {I:AH} {u:V} {x:Value} (hr:fF I u x):∀ {v:V},Nd u v->fF I v x:=by
 induction hr with
 |b x=>intro v h;cases h;exact .b x
 |i k n=>intro v h;cases h;exact .i k n
 |s l=>intro v h;cases h;exact .s l
 |aS=>intro v h;cases h with
  |refl=>exact .aS
  |nil sz=>exact .nW sz
 |nW sz=>intro v h;cases h with
  |refl=>exact .nW sz
  |sl h=>cases h;exact .nW sz
 |LO sz a hs=>intro v h;cases h with
  |refl=>exact .LO sz a hs
  |sl h=>cases h;exact .LO sz a hs
 |sl sz es bS off cap val hc hl hv hr ih=>intro v h;cases h with
  |refl=>exact .sl sz es bS off cap val hc hl hv hr
  |@sl _ _ ds h=>
   obtain ⟨l1,l2⟩:=h.len hl
   obtain ⟨s1,s2⟩:=h.flat.spec
   rw [<-l1]
   refine .sl sz ds bS off cap val (by omega) l2 (fun j d hj=>?_) (fun j d hj=>?_)
   · obtain ⟨u,hu,_⟩:=s2 j d hj;exact hv j u hu
   · obtain ⟨u,hu,hn⟩:=s2 j d hj;exact ih j u hu hn
inductive Ce (ρ:Ren) (b:qM) (F:Fz):V->V->Prop where
 |Cd {u v:V} (e:u=v.gV ρ) (h:v.bd0 b):Ce ρ b F u v
 |ZD {k:Key} {sz s n:Nat} {ds es:List (List V)} (h:F k=some (sz,ds)) (hn:s+n<=ds.length) (he:es=(ds.drop s).take n):Ce ρ b F (.ms k sz s n) (.sl none sz es)
 |tok {k:Key} {sz:Nat} {es:List (List V)}:Ce ρ b F (.sl (some k) sz es) (.sl none sz es)
 |rows {t:Option Key} {sz:Nat} {es ds:List (List V)} (h:Df es ds):Ce ρ b F (.sl t sz es) (.sl none sz ds)
 |nil {sz:Nat}:Ce ρ b F .aS (.sl none sz [])
 |gD {v:V}:Ce ρ b F v .gD
def Ah (ρ:Ren) (b:qM) (F:Fz):List V->List V->Prop
 |[],[]=>True
 |u::r,v::q=>Ce ρ b F u v/\Ah ρ b F r q
 |_,_=>False
def Kt (ρ:Ren) (b:qM) (F:Fz):List (List V)->List (List V)->Prop
 |[],[]=>True
 |u::r,v::q=>Ah ρ b F u v/\Kt ρ b F r q
 |_,_=>False
def Uw (ρ:Ren) (b:qM) (F:Fz) (u v:V):Prop:=
 Ce ρ b F u v\/(∃ cs ds,u=.agg cs/\v=.agg ds/\Ah ρ b F cs ds)\/∃ f a c a' c',u=.fn f a c/\v=.fn f a' c'/\Ah ρ b F a a'/\Ah ρ b F c c'
def MI (ρ:Ren) (b:qM) (F:Fz):List V->List V->Prop
 |[],[]=>True
 |u::r,v::q=>Uw ρ b F u v/\MI ρ b F r q
 |_,_=>False
def Pp (ρ:Ren) (b:qM) (F:Fz) (u v:V):Prop:=
 Uw ρ b F u v\/∃ cs ds,u=.bY cs/\v=.bY ds/\MI ρ b F cs ds
def ZE (ρ:Ren) (b:qM) (F:Fz):List (V×V)->List (V×V)->Prop
 |[],[]=>True
 |u::r,v::q=>(u.1=v.1/\Uw ρ b F u.2 v.2)/\ZE ρ b F r q
 |_,_=>False
def ZF (ρ:Ren) (b:qM) (F:Fz):Obj->Obj->Prop
 |.cs c,.cs d=>Ah ρ b F c d
 |.arr sz es,.arr eD ds=>sz=eD/\Kt ρ b F es ds
 |.spare,.spare=>True
 |.mp kd es,.mp Jz ds=>kd=Jz/\ZE ρ b F es ds
 |_,_=>False
theorem Ah.spec {ρ:Ren} {b:qM} {F:Fz}:∀ {l q:List V},Ah ρ b F l q->q.length=l.length/\∀ (j:Nat) (v:V),q[j]? =some v->∃ u,l[j]? =some u/\Ce ρ b F u v
 |[],[],_=>⟨rfl,fun j v h=>by simp at h⟩
 |u::r,v::q,h=>by
  obtain ⟨h1,h2⟩:=Ah.spec h.2
  refine ⟨by simp [h1],fun j w hj=>?_⟩
  cases j with
  |zero=>simp at hj;subst hj;exact ⟨u,rfl,h.1⟩
  |succ j=>obtain ⟨x,h3,h4⟩:=h2 j w (by simpa using hj);exact ⟨x,by simpa using h3,h4⟩
 |[],_::_,h=>h.elim
 |_::_,[],h=>h.elim
theorem MI.spec {ρ:Ren} {b:qM} {F:Fz}:∀ {l q:List V},MI ρ b F l q->q.length=l.length/\∀ (j:Nat) (v:V),q[j]? =some v->∃ u,l[j]? =some u/\Uw ρ b F u v
 |[],[],_=>⟨rfl,fun j v h=>by simp at h⟩
 |u::r,v::q,h=>by
  obtain ⟨h1,h2⟩:=MI.spec h.2
  refine ⟨by simp [h1],fun j w hj=>?_⟩
  cases j with
  |zero=>simp at hj;subst hj;exact ⟨u,rfl,h.1⟩
  |succ j=>obtain ⟨x,h3,h4⟩:=h2 j w (by simpa using hj);exact ⟨x,by simpa using h3,h4⟩
 |[],_::_,h=>h.elim
 |_::_,[],h=>h.elim
theorem ZE.spec {ρ:Ren} {b:qM} {F:Fz}:∀ {l q:List (V×V)},ZE ρ b F l q->q.length=l.length/\∀ (j:Nat) (v:V×V),q[j]? =some v->∃ u,l[j]? =some u/\u.1=v.1/\Uw ρ b F u.2 v.2
 |[],[],_=>⟨rfl,fun j v h=>by simp at h⟩
 |u::r,v::q,h=>by
  obtain ⟨h1,h2⟩:=ZE.spec h.2
  refine ⟨by simp [h1],fun j w hj=>?_⟩
  cases j with
  |zero=>simp at hj;subst hj;exact ⟨u,rfl,h.1⟩
  |succ j=>obtain ⟨x,h3,h4⟩:=h2 j w (by simpa using hj);exact ⟨x,by simpa using h3,h4⟩
 |[],_::_,h=>h.elim
 |_::_,[],h=>h.elim
theorem Ah.append {ρ:Ren} {b:qM} {F:Fz}:∀ {l q:List V},Ah ρ b F l q->∀ {l' q':List V},Ah ρ b F l' q'->Ah ρ b F (l++l') (q++q')
 |[],[],_,_,_,h=>h
 |_::_,_::_,h,_,_,h'=>⟨h.1,h.2.append h'⟩
 |[],_::_,h,_,_,_=>h.elim
 |_::_,[],h,_,_,_=>h.elim
theorem Kt.flat {ρ:Ren} {b:qM} {F:Fz}:∀ {l q:List (List V)},Kt ρ b F l q->Ah ρ b F l.flatten q.flatten
 |[],[],_=>trivial
 |u::r,v::q,h=>by rw [List.flatten_cons,List.flatten_cons];exact h.1.append h.2.flat
 |[],_::_,h=>h.elim
 |_::_,[],h=>h.elim
theorem Kt.len {ρ:Ren} {b:qM} {F:Fz} {sz:Nat}:∀ {l q:List (List V)},Kt ρ b F l q->(∀ e∈l,e.length=sz)->∀ e∈q,e.length=sz
 |[],[],_,_=>fun e he=>by cases he
 |u::r,v::q,h,hl=>fun e he=>by
  cases he with
  |head=>rw [h.1.spec.1];exact hl u (.head _)
  |tail _ he=>exact h.2.len (fun e he=>hl e (.tail _ he)) e he
 |[],_::_,h,_=>h.elim
 |_::_,[],h,_=>h.elim
def Cf (st:St) (F:Fz):Prop:=∀ k sz ds,F k=some (sz,ds)->∃ es,st.get k=some (.arr sz es)/\eC es=some ds
open Classical in
noncomputable def pL (E:Env) (w:World) (F:Fz):AH:=fun b o=>match E.I b o with
 |some x=>some x
 |none=>if ∃ k sz ds,F k=some (sz,ds)/\(E.μ k).bS=b/\(E.μ k).base<=o/\o<(E.μ k).base+ds.flatten.length then bM w b o else none
theorem DH (E:Env) (w:World) (F:Fz):∀ b o x,E.I b o=some x->pL E w F b o=some x:=fun b o x h=>by unfold pL;rw [h]
theorem Pq {E:Env} {w:World} {F:Fz} (h:∀ b o x,E.I b o=some x->bM w b o=some x) {b o:Nat} {x:Value} (hx:pL E w F b o=some x):bM w b o=some x:=by
 unfold pL at hx
 split at hx
 · rename_i y hy;cases hx;exact h _ _ _ hy
 · split at hx
   · exact hx
   · cases hx
theorem Sw {E:Env} {w:World} {F:Fz} {b o:Nat} {x:Value} (hx:pL E w F b o=some x):E.I b o=some x\/∃ k sz ds,F k=some (sz,ds)/\(E.μ k).bS=b:=by
 unfold pL at hx
 split at hx
 · rename_i y hy;cases hx;exact .inl hy
 · split at hx
   · rename_i h;obtain ⟨k,sz,ds,h1,h2,_⟩:=h;exact .inr ⟨k,sz,ds,h1,h2⟩
   · cases hx
theorem Vg {E:Env} {st:St} {w:World} {F:Fz} (hs:cH E st w) (hF:Cf st F) {k:Key} {sz:Nat} {ds:List (List V)} (h:F k=some (sz,ds)):
 (∀ e∈ds,e.length=sz)/\∀ (j:Nat) (d:V),ds.flatten[j]? =some d->∃ x,pL E w F (E.μ k).bS ((E.μ k).base+j)=some x/\fF (pL E w F) d x:=by
 obtain ⟨es,h1,h2⟩:=hF k sz ds h
 obtain ⟨h3,h4,h5⟩:=jT h2
 obtain ⟨hl,cells,t,fz,c1,c2,c3,c4,c5⟩:=hs.obj k _ h1
 obtain ⟨h6,h7⟩:=nE h3
 refine ⟨h5 hl,fun j d hd=>?_⟩
 obtain ⟨v,hv,H3⟩:=h7 j d hd
 obtain ⟨x,hx,hr,_⟩:=c5 j v hv
 have cO:j<ds.flatten.length:=(List.getElem?_eq_some_iff.1 hd).1
 have pG:bM w (E.μ k).bS ((E.μ k).base+j)=some x:=by simp only [bM,c1];exact hx
 refine ⟨x,?_,(AL H3 (hr.mono (E.D2 k))).mono (DH E w F)⟩
 unfold pL
 rw [hs.own k ⟨_,h1⟩ _ (Nat.le_add_right _ _) (by omega)]
 dsimp only
 rw [if_pos ⟨k,sz,ds,h,rfl,Nat.le_add_right _ _,by omega⟩]
 exact pG
structure Env.Sub (E E0:Env):Prop where
 I:E0.I=E.I
 μ:E0.μ=E.μ
def Env.Sx (E:Env) (ρ:Ren) (b:qM) (I:AH):Env:=⟨I,fun k=>E.μ (ρ.key k),b.g,b.l⟩
theorem Env.Yg (E:Env) (ρ:Ren) (b:qM) {I:AH} (h:∀ b o x,E.I b o=some x->I b o=some x):(E.Cd ρ b).Le (E.Sx ρ b I):=⟨h,Nat.le_refl _,Nat.le_refl _,fun _ _=>rfl⟩
section
variable {E:Env} {st:St} {w:World} {F:Fz} {ρ:Ren} {b:qM}
theorem MJ (hs:cH E st w) (hF:Cf st F) {E0:Env} (h0:E.Sub E0) {u v:V} {x:Value} (hc:Ce ρ b F u v) (hr:Rel E0 u x):Rel (E0.Sx ρ b (pL E w F)) v x:=by
 have hI:∀ b o x,E0.I b o=some x->pL E w F b o=some x:=fun b o x h=>DH E w F b o x (by rw [<-h0.I];exact h)
 cases hc with
 |Cd e hb=>subst e;exact (Sv hb hr).mono (E0.Yg ρ b hI)
 |@ZD k sz s n ds es h hn he=>
  subst he
  obtain ⟨f1,f2⟩:=Vg hs hF h
  refine .deep ?_
  cases hr with
  |deep hd=>cases hd
  |ms _ _ _ _ a cap hk hc hf hb ha=>
   have hlen:((ds.drop s).take n).length=n:=by simp;omega
   rcases ha with ha|ha
   · obtain rfl:n=0:=by omega
     rw [ha]
     simp only [List.take_zero]
     exact fF.Dr sz _
   · rw [ha]
     have:=fF.sl (I:=pL E w F) sz ((ds.drop s).take n) (E0.μ k).bS ((E0.μ k).base+s*sz) cap (fun j=>((pL E w F (E0.μ k).bS ((E0.μ k).base+s*sz+j)).getD default)) (by omega)
      (fun e he=>f1 e (List.mem_of_mem_drop (List.mem_of_mem_take he))) ?_ ?_
     · rwa [hlen] at this
     · intro j d hj
       have hjj:ds.flatten[s*sz+j]? =some d:=by
        rw [nC (fun e he=>f1 e (List.mem_of_mem_drop he)),nD f1] at hj
        rw [List.getElem?_take] at hj
        split at hj
        · rw [List.getElem?_drop] at hj;exact hj
        · cases hj
       obtain ⟨y,hy,_⟩:=f2 _ d hjj
       rw [h0.μ,Nat.add_assoc,hy]
       rfl
     · intro j d hj
       have hjj:ds.flatten[s*sz+j]? =some d:=by
        rw [nC (fun e he=>f1 e (List.mem_of_mem_drop he)),nD f1] at hj
        rw [List.getElem?_take] at hj
        split at hj
        · rw [List.getElem?_drop] at hj;exact hj
        · cases hj
       obtain ⟨y,hy,hyr⟩:=f2 _ d hjj
       rw [h0.μ,Nat.add_assoc,hy]
       exact hyr
 |tok=>cases hr with
  |deep hd=>cases hd
  |F4 _ _ _ a cap hk hd H0 Ay=>exact .deep (hd.mono hI)
 |@rows t sz es ds h=>cases hr with
  |deep hd=>
   cases t with
   |some k=>cases hd
   |none=>exact .deep ((hd.mono hI).nd (.sl h))
  |F4 _ _ _ a cap hk hd H0 Ay=>exact .deep ((hd.mono hI).nd (.sl h))
 |nil=>cases hr with
  |deep hd=>cases hd with
   |aS=>exact .deep (.nW _)
 |gD=>exact .gD x
theorem IN (hs:cH E st w) (hF:Cf st F) {E0:Env} (h0:E.Sub E0) {l q:List V} (hc:Ah ρ b F l q) {xs:Array Value} (hn:xs.size=l.length)
 (hr:∀ (j:Nat) (v:V) (x:Value),l[j]? =some v->xs[j]? =some x->Rel E0 v x):xs.size=q.length/\∀ (j:Nat) (v:V) (x:Value),q[j]? =some v->xs[j]? =some x->Rel (E0.Sx ρ b (pL E w F)) v x:=by
 obtain ⟨h1,h2⟩:=hc.spec
 refine ⟨by omega,fun j v x hj hx=>?_⟩
 obtain ⟨u,hu,hc⟩:=h2 j v hj
 exact MJ hs hF h0 hc (hr j u x hu hx)
theorem IP (hs:cH E st w) (hF:Cf st F) {E0:Env} (h0:E.Sub E0) {u v:V} {x:Value} (hc:Uw ρ b F u v) (hr:Rel E0 u x):Rel (E0.Sx ρ b (pL E w F)) v x:=by
 rcases hc with hc|⟨cs,ds,rfl,rfl,hc⟩|⟨f,a,c,a',c',rfl,rfl,ha,hc⟩
 · exact MJ hs hF h0 hc hr
 · cases hr with
   |deep hd=>cases hd
   |agg _ xs hn h1 hr=>
    obtain ⟨h2,h3⟩:=IN hs hF h0 hc hn hr
    exact .agg _ _ h2 h1 h3
 · cases hr with
   |deep hd=>cases hd
   |fn _ _ _ ya yc ZG hnc Jq QP=>
    obtain ⟨h2,h3⟩:=IN hs hF h0 ha ZG Jq
    obtain ⟨h4,h5⟩:=IN hs hF h0 hc hnc QP
    exact .fn _ _ _ _ _ h2 h4 h3 h5
theorem Vh (hs:cH E st w) (hF:Cf st F) {E0:Env} (h0:E.Sub E0) {u v:V} {x:Value} (hc:Pp ρ b F u v) (hr:Rel E0 u x):Rel (E0.Sx ρ b (pL E w F)) v x:=by
 rcases hc with hc|⟨cs,ds,rfl,rfl,hc⟩
 · exact IP hs hF h0 hc hr
 · cases hr with
   |deep hd=>cases hd
   |bY _ xs hn hr=>
    obtain ⟨h1,h2⟩:=hc.spec
    refine .bY _ _ (by omega) fun j v x hj hx=>?_
    obtain ⟨u,hu,hc⟩:=h2 j v hj
    exact IP hs hF h0 hc (hr j u x hu hx)
theorem MK {z:Nat} (hs:cH E st w) (hF:Cf st F) {E0:Env} (h0:E.Sub E0) {L:Loc} {cs ds:List V} (hc:Ah ρ b F cs ds) (h:iH z E0 w L cs):iH z (E0.Sx ρ b (pL E w F)) w L ds:=by
 obtain ⟨cells,t,fz,h1,h2,h3,h4,h5⟩:=h
 obtain ⟨c1,c2⟩:=hc.spec
 refine ⟨cells,t,fz,h1,h2,by omega,h4,fun j v hj=>?_⟩
 obtain ⟨u,hu,hc⟩:=c2 j v hj
 obtain ⟨x,hx,hr,ho⟩:=h5 j u hu
 exact ⟨x,hx,MJ hs hF h0 hc hr,ho⟩
theorem ce_holds (hs:cH E st w) (hF:Cf st F) {E0:Env} (h0:E.Sub E0) {L:Loc} {o o':Obj} (hc:ZF ρ b F o o') (h:Holds E0 w L o):Holds (E0.Sx ρ b (pL E w F)) w L o':=by
 cases o<;>cases o'<;>simp only [ZF] at hc
 case cs.cs c d=>exact ⟨h.1,MK hs hF h0 hc h.2⟩
 case arr.arr sz es eD ds=>
  obtain ⟨rfl,hc⟩:=hc
  exact ⟨hc.len h.1,MK hs hF h0 hc.flat h.2⟩
 case spare.spare=>exact MK hs hF h0 (cs:=[]) (ds:=[]) trivial h
 case mp.mp kd es Jz ds=>
  obtain ⟨rfl,hc⟩:=hc
  obtain ⟨bU,clock,h1,h2,h3,h4⟩:=h
  obtain ⟨c1,c2⟩:=hc.spec
  refine ⟨bU,clock,h1,by omega,fun j q e hq he=>?_,h4⟩
  obtain ⟨u,hu,e1,e2⟩:=c2 j q hq
  obtain ⟨a1,a2,a3⟩:=h3 j u e hu he
  rw [e1] at a1 a2
  exact ⟨a1.mono (fun b o x hx=>DH E w F b o x (by rw [<-h0.I];exact hx)),a2,IP hs hF h0 e2 a3⟩
end
structure ML (ρ:Ren) (F:Fz) (fr:Fr) (st:St) (cF:Fr) (cB:St):Prop where
 fz:Cf st F
 inj:∀ k k',cB.live k->cB.live k'->ρ.key k=ρ.key k'->k=k'
 obj:∀ k o',cB.get k=some o'->cB.lim.has k/\F (ρ.key k)=none/\∃ o,st.get (ρ.key k)=some o/\ZF ρ (k.lim cB.lim) F o o'
 fr:∀ t,Pp ρ cB.lim F (fr.get t) (cF.get t)
theorem ML.ok {ρ:Ren} {F:Fz} {fr:Fr} {st:St} {cF:Fr} {cB:St} (h:ML ρ F fr st cF cB) {E:Env} {w:World} (hs:cH E st w):
 cH (E.Sx ρ cB.lim (pL E w F)) cB w/\∀ (t:Nat) (x:Value),Rel E (fr.get t) x->Rel (E.Sx ρ cB.lim (pL E w F)) (cF.get t) x:=by
 have hl:∀ k,cB.live k->st.live (ρ.key k):=fun k ⟨o,ho⟩=>by obtain ⟨_,_,o',h1,_⟩:=h.obj k o ho;exact ⟨_,h1⟩
 refine ⟨⟨rfl,rfl,fun k ⟨o,ho⟩=>?_,fun b o x hx=>Pq hs.j6 hx,fun k o ho=>?_,fun k k' hk iT dJ=>?_,fun k hk j h1 h2=>?_⟩,fun t x hx=>Vh hs h.fz ⟨rfl,rfl⟩ (h.fr t) hx⟩
 · have:=(h.obj k o ho).1
   cases k<;>exact this
 · obtain ⟨_,_,o0,h2,h3⟩:=h.obj k o ho
   have h4:=hs.obj _ _ h2
   cases k with
   |g n=>exact ce_holds (E0:=E.cut) (b:=⟨cB.lim.g,0⟩) hs h.fz ⟨rfl,rfl⟩ h3 h4
   |l n=>exact ce_holds (E0:=E) hs h.fz ⟨rfl,rfl⟩ h3 h4
 · exact hs.sep _ _ (hl k hk) (hl k' iT) fun e=>dJ (h.inj k k' hk iT e)
 · show pL E w F (E.μ (ρ.key k)).bS j=none
   have eQ:=hl k hk
   obtain ⟨o,ho⟩:=hk
   obtain ⟨_,Ek,_⟩:=h.obj k o ho
   have MG:=hs.own _ eQ j h1 h2
   unfold pL
   rw [MG]
   dsimp only
   rw [if_neg]
   rintro ⟨k1,sz,ds,e1,e2,_⟩
   obtain ⟨es,e3,_⟩:=h.fz k1 sz ds e1
   by_cases BT:k1=ρ.key k
   · subst BT;rw [Ek] at e1;cases e1
   · exact hs.sep _ _ ⟨_,e3⟩ eQ BT e2
theorem ML.acA {ρ:Ren} {F:Fz} {fr:Fr} {st:St} {cF:Fr} {cB:St} (h:ML ρ F fr st cF cB) {n:Nat} (hρ:∀ i,i<n->ρ.g i=i) (hn:n<=cB.g.next) {E0 E:Env} {st0:St} {w0 w:World} (z1:E0.ng=n) (z2:E0.nl=0) (he:Ext E0 st0 w0 E st w):Ext E0 st0 w0 (E.Sx ρ cB.lim (pL E w F)) cB w:=by
 have Pm:∀ k,E0.has k->ρ.key k=k:=fun k hk=>by
  cases k with
  |g i=>
   have hi:i<E0.ng:=hk
   show Key.g (ρ.g i)=.g i
   rw [hρ i (by omega)]
  |l i=>
   have hi:i<E0.nl:=hk
   omega
 refine ⟨⟨fun b o x hx=>DH E w F b o x (he.le.j6 b o x hx),by rw [z1];exact hn,by rw [z2];exact Nat.zero_le _,fun k hk=>?_⟩,he.size,fun b o x hx=>?_,fun k ⟨o,ho⟩ hk=>?_,fun k ⟨o,ho⟩ _=>?_,he.same,he.os,he.out,he.tape⟩
 · show E.μ (ρ.key k)=E0.μ k
   rw [Pm k hk]
   exact he.le.loc k hk
 · rcases Sw hx with h1|⟨k,sz,ds,h1,h2⟩
   · exact he.fT b o x h1
   · obtain ⟨es,h3,_⟩:=h.fz k sz ds h1
     by_cases hk:E0.has k
     · exact .inr (.inr ⟨k,he.gT k ⟨_,h3⟩ hk,by rw [<-he.le.loc k hk];exact h2⟩)
     · rcases he.iB k ⟨_,h3⟩ hk with h4|⟨k0,h4,h5⟩
       · exact .inr (.inl (h2▸h4))
       · exact .inr (.inr ⟨k0,h4,h5.trans h2⟩)
 · obtain ⟨_,_,o0,h1,_⟩:=h.obj k o ho
   rw [Pm k hk] at h1
   exact he.gT k ⟨_,h1⟩ hk
 · obtain ⟨_,_,o0,h1,_⟩:=h.obj k o ho
   by_cases hk:E0.has (ρ.key k)
   · exact .inr ⟨_,he.gT _ ⟨_,h1⟩ hk,by rw [<-he.le.loc _ hk];rfl⟩
   · exact he.iB (ρ.key k) ⟨_,h1⟩ hk
def Pure (P:Program) (f:Nat) (args:List V) (Q:V->Prop):Prop:=
 aC P f args iJ fun v h'=>∃ ρ F u,ML ρ F [(0,v)] (dP h') [(0,u)] (dP iJ)/\u.free=true/\Q u
theorem Pure.use {P:Program} {f:Nat} {args:List V} {Q:V->Prop} (h0:Pure P f args Q) (ha:args.all V.free=true) {h:aA} {K:V->aA->Prop} (hK:∀ u,u.free=true->Q u->K u h):aC P f args h K:=by
 refine ⟨h0.1,fun E w vs tO hs hv=>?_⟩
 simp only [List.all_eq_true] at ha
 let E0:Env:={ I:=E.I,μ:=E.μ,ng:=0,nl:=0 }
 have QE:cH E0 (dP iJ) w:=⟨rfl,rfl,fun k hk=>absurd hk cI,hs.j6,fun k o hk=>absurd ⟨o,hk⟩ cI,fun k k' hk=>absurd hk cI,fun k hk=>absurd hk cI⟩
 have NX:eT E0 args vs:=⟨hv.1,fun j v x hj hx=>wD (E:=E) (F:=E0) (fun b o x h=>h) (ha v (List.mem_of_getElem? hj)) (hv.2 j v x hj hx)⟩
 refine (h0.2 E0 w vs rfl QE NX).mono ?_
 rintro e w' ⟨v,x,h',E1,⟨ρ,F,u,ht,NY,hq⟩,rfl,hn,zI,Ux,Ef⟩
 obtain ⟨Ay,Dt⟩:=ht.ok zI
 have hr:=Dt 0 x Ef
 have he:=ht.acA (n:=0) (fun i hi=>absurd hi (Nat.not_lt_zero _)) (Nat.zero_le _) rfl rfl Ux
 generalize E1.Sx ρ (dP iJ).lim (pL E1 w' F)=E' at Ay hr he
 have hr:Rel E' u x:=hr
 have D4:uZ E.I E'.I:=he.le.j6
 have lA:∀ k,(dP h).live k->w'.heap[(E.μ k).bS]? =w.heap[(E.μ k).bS]? :=fun k hk=>he.same _ (hs.lt hk) fun k0 Pm=>absurd Pm cI
 have hle:E.Le { E with I:=E'.I }:=⟨D4,Nat.le_refl _,Nat.le_refl _,fun _ _=>rfl⟩
 refine ⟨u,x,h,{ E with I:=E'.I },hK u NY hq,rfl,tO,⟨hs.ng,hs.nl,fun k hk=>hs.j7 k hk,Ay.j6,fun k o hk=>?_,fun k k' hk iT dJ=>hs.sep k k' hk iT dJ,fun k hk j h1 h2=>?_⟩,
  ⟨hle,he.size,fun b o x hx=>?_,fun k hk _=>hk,fun k hk hn=>absurd (hs.j7 k hk) hn,fun b hb _=>he.same b hb fun k hk=>absurd hk cI,he.os,he.out,he.tape⟩,wD (E:=E') (F:={ E with I:=E'.I }) (fun b o x h=>h) NY hr⟩
 · exact (hs.obj k o hk).dZ (Env.jC hle k) (lA k ⟨o,hk⟩)
 · show E'.I (E.μ k).bS j=none
   cases hx:E'.I (E.μ k).bS j with
   |none=>rfl
   |some y=>
    rcases he.fT _ _ _ hx with h3|h3|⟨k0,h3,_⟩
    · have:=hs.own k hk j h1 h2
      rw [show E0.I=E.I from rfl,this] at h3
      cases h3
    · have:=hs.lt hk
      omega
    · exact absurd h3 cI
 · rcases he.fT b o x hx with h1|h1|⟨k0,h1,_⟩
   · exact .inl h1
   · exact .inr (.inl h1)
   · exact absurd h1 cI
open Go
def Ai (n:Nat) (fr:Fr) (st:St) (cF:Fr) (cB:St):Prop:=(cF=fr/\cB=st)\/∃ ρ F,ML ρ F fr st cF cB/\(∀ i,i<n->ρ.g i=i)/\n<=cB.g.next
abbrev IQ (fr:Fr) (st:St) (cF:Fr) (cB:St):Prop:=Ai 0 fr st cF cB
theorem Ai.ok {n:Nat} {fr cF:Fr} {st cB:St} (h:Ai n fr st cF cB) {E0 E:Env} {st0:St} {w0 w:World} (z1:E0.ng=n) (z2:E0.nl=0) (hs:cH E st w) (he:Ext E0 st0 w0 E st w):
 ∃ E',cH E' cB w/\Ext E0 st0 w0 E' cB w/\∀ (t:Nat) (x:Value),Rel E (fr.get t) x->Rel E' (cF.get t) x:=by
 rcases h with ⟨rfl,rfl⟩|⟨ρ,F,h,h1,h2⟩
 · exact ⟨E,hs,he,fun _ _ h=>h⟩
 · exact ⟨_,(h.ok hs).1,h.acA h1 h2 z1 z2 he,(h.ok hs).2⟩
def Pr (n:Nat) (A:b7):AC->(Ex->Fr->St->Prop)->Fr->St->Prop
 |.skip,Q,fr,st=>Q .normal fr st
 |.BE ops,Q,fr,st=>(eF ops fr st).wp A (iY Q)
 |.u0 ds kill,Q,fr,st=>((pX [] ds fr st).bind (vB kill)).wp A (iY Q)
 |.seq a b,Q,fr,st=>Pr n A a (qG (Pr n A b Q) Q) fr st
 |.cond c a b,Q,fr,st=>match c.ev fr with
  |.b x=>wIf x (Pr n A a Q fr st) (Pr n A b Q fr st)
  |_=>False
 |.bS id b,Q,fr,st=>Pr n A b (j9 id Q) fr st
 |.loop b,Q,fr,st=>∀ R:Fr->St->Prop,(∀ fr st cF cB,Ai n fr st cF cB->Pr n A b (qG R Q) cF cB->R fr st)->R fr st
 |.exit id,Q,fr,st=>Q (.exit id) fr st
 |.ret,Q,fr,st=>Q .ret fr st
 |.no,_,_,_=>False
section
variable {P:Program} {n N:Nat} {E0:Env} {st0:St} {w0:World}
theorem qN (z1:E0.ng=n) (z2:E0.nl=0):∀ (A:AC) (c:Code),yV P N c A=true->∀ (Q:Ex->Fr->St->Prop) {fr:Fr} {st:St} {E:Env} {w:World} {a:Act},
 cH E st w->Ext E0 st0 w0 E st w->bB E N fr a->a.defers=[]->Pr n (aC P) A Q fr st->c.wp P (rC N E0 st0 w0 Q) a w
 |.skip,c,hk,Q,fr,st,E,w,a,hs,he,hf,hd,hw=>by
  cases c<;>simp [yV] at hk
  · exact wp_skip ⟨fr,st,E,hw,hs,he,hf,hd⟩
  · exact wp_label ⟨fr,st,E,hw,hs,he,hf,hd⟩
 |.BE asV,c,hk,Q,fr,st,E,w,a,hs,he,hf,hd,hw=>by
  cases c<;>simp [yV] at hk
  rename_i id ops draw
  obtain ⟨rfl,hk⟩:=hk
  refine wp_region ?_
  have:=ops_ok (K:=iY Q) (Q:=rC N E0 st0 w0 Q) asV ops.toList 0 hk (fun k o h=>by simpa using h) hs hf hw (fun cF cB E' a' w' h1 h2 h3 h4 h5=>⟨cF,cB,E',h1,h2,he.trans h3,h4,h5.trans hd⟩)
  rw [List.range_eq_range']
  simpa using this
 |.u0 ds kill,c,hk,Q,fr,st,E,w,a,hs,he,hf,hd,hw=>by
  cases c<;>simp [yV] at hk
  rename_i id ops draw
  obtain ⟨rfl,hk⟩:=hk
  simp only [Pr] at hw
  rw [T.wp_bind] at hw
  refine draw_ok hk hs hf hw fun cF cB E' a' w' h1 h2 h3 h4 h5=>?_
  simp only [vB] at h1
  rw [Fr.cU] at h1
  refine ⟨cF.oY kill,cB,E',h1,h2,he.trans h3,⟨h4.size,fun t=>?_⟩,h5.trans hd⟩
  rw [Fr.iC]
  split
  · exact .gD _
  · exact h4.rel t
 |.seq A B,c,hk,Q,fr,st,E,w,a,hs,he,hf,hd,hw=>by
  cases c<;>simp [yV] at hk
  rename_i x y
  refine wp_seq ?_
  refine wp_mono (qN z1 z2 A x hk.1 _ hs he hf hd hw) ?_
  intro e a' w' h
  cases e with
  |normal=>
   obtain ⟨cF,cB,E',h1,h2,h3,h4,h5⟩:=h
   exact qN z1 z2 B y hk.2 Q h2 h3 h4 h5 h1
  |exit id=>exact h
  |ret=>exact h
  |goto l=>exact h
  |panic ch=>exact h
  |outgrown=>exact h
 |.cond d A B,c,hk,Q,fr,st,E,w,a,hs,he,hf,hd,hw=>by
  cases c<;>simp [yV] at hk
  rename_i x y z
  have r1:=bG hk.1.1 hf
  simp only [Pr] at hw
  split at hw
  · rename_i b hb
    rw [hb] at r1
    exact wp_cond_split r1.bool (fun hb=>qN z1 z2 A y hk.1.2 Q hs he hf hd (hw.1 hb)) (fun hb=>qN z1 z2 B z hk.2 Q hs he hf hd (hw.2 hb))
  · exact hw.elim
 |.bS id B,c,hk,Q,fr,st,E,w,a,hs,he,hf,hd,hw=>by
  cases c<;>simp [yV] at hk
  rename_i BG x
  obtain ⟨rfl,hk⟩:=hk
  refine wp_block (wp_mono (qN z1 z2 B x hk _ hs he hf hd hw) ?_)
  intro e a' w' h
  cases e with
  |normal=>exact h
  |exit id=>
   obtain ⟨cF,cB,E',h1,h2⟩:=h
   simp only [j9] at h1
   simp only [Exit.inBlock]
   split
   · rename_i ED;rw [if_pos ED] at h1;exact ⟨cF,cB,E',h1,h2⟩
   · rename_i ED;rw [if_neg ED] at h1;exact ⟨cF,cB,E',h1,h2⟩
  |ret=>exact h
  |goto l=>exact h
  |panic ch=>exact h
  |outgrown=>exact h
 |.loop B,c,hk,Q,fr,st,E,w,a,hs,he,hf,hd,hw=>by
  cases c<;>simp [yV] at hk
  rename_i x
  have key:=hw (fun fr st=>∀ (E:Env) (w:World) (a:Act),cH E st w->Ext E0 st0 w0 E st w->bB E N fr a->a.defers=[]->iZ P x (rC N E0 st0 w0 Q) a w) (by
   intro cF cB sZ aoH Ps h' E' w' a' s1 s2 s3 s4
   obtain ⟨E1,c1,c0,c2⟩:=Ps.ok z1 z2 s1 s2
   refine iZ.round (qN z1 z2 B x hk _ c1 c0 ⟨s3.size,fun t=>c2 t _ (s3.rel t)⟩ s4 h') ?_
   rintro a2 w2 ⟨Wr,st2,E2,h1,h2,h3,h4,h5⟩
   exact h1 E2 w2 a2 h2 h3 h4 h5)
  exact (key E w a hs he hf hd).loop
 |.exit id,c,hk,Q,fr,st,E,w,a,hs,he,hf,hd,hw=>by
  cases c<;>simp [yV] at hk
  subst hk
  exact wp_exit ⟨fr,st,E,hw,hs,he,hf,hd⟩
 |.ret,c,hk,Q,fr,st,E,w,a,hs,he,hf,hd,hw=>by
  cases c<;>simp [yV] at hk
  exact wp_ret ⟨fr,st,E,hw,hs,he,hf,hd⟩
 |.no,c,hk,Q,fr,st,E,w,a,hs,he,hf,hd,hw=>hw.elim
end
section
variable {P:Program}
theorem Sy {f:Nat} {F:aZ} (hk:gU P f F=true) {args:List V} (hn:args.length=F.nparams) {h0:aA} {K:V->aA->Prop}
 (hw:Pr h0.next (aC P) F.body (wC F.results K) (b9 0 args) (dP h0)):aC P f args h0 K:=by
 unfold gU at hk
 split at hk
 case h_2=>cases hk
 rename_i fn F7
 split at hk
 case h_2=>cases hk
 rename_i c hb
 simp only [Bool.and_eq_true,decide_eq_true_eq] at hk
 obtain ⟨⟨⟨k1,k2⟩,k3⟩,k4⟩:=hk
 refine ⟨k1,fun E w vs tO hs hv=>?_⟩
 refine calls_of_wp F7 hb ?_
 have Jv:=hv.1
 have Gn:bB E fn.ntmps (b9 0 args) { tmps:=vs++Array.replicate (fn.ntmps - vs.size) undef,defers:=[] }:=by
  refine ⟨by simp;omega,fun t=>?_⟩
  rw [qH,if_pos (Nat.zero_le _),Nat.sub_zero]
  by_cases ht:t<args.length
  · have h1:args[t]? =some args[t]:=by simp [ht]
    obtain ⟨x,hx,hr⟩:=hv.get h1
    have:(vs++Array.replicate (fn.ntmps - vs.size) undef).getD t undef=x:=by
     rw [Array.getD_eq_getD_getElem?,Array.getElem?_append_left (by omega),hx];rfl
    rw [this]
    simp only [List.getD_eq_getElem?_getD,h1,Option.getD_some]
    exact hr
  · simp only [List.getD_eq_getElem?_getD,List.getElem?_eq_none (Nat.le_of_not_lt ht),Option.getD_none]
    exact .gD _
 refine wp_mono (qN (E0:=E) (st0:=dP h0) (w0:=w) hs.ng.symm tO F.body c k2 _ hs (.refl _ _ _) Gn rfl hw) ?_
 have fin:∀ (a:Act) (w':World),Iq fn.ntmps E (dP h0) w (fun fr st=>match eX fr st F.results with|some v=>K v st.g|none=>False) a w'->
  a.defers=[]/\∃ v,(results fn a.tmps).run P w'=.ok v w'/\∃ v' x h' E',K v' h'/\Ending.returned v=.returned x/\E'.nl=0/\cH E' (dP h') w'/\Ext E (dP h0) w E' (dP h') w'/\Rel E' v' x:=by
  rintro a w' ⟨fr,st,E',hr,s1,s2,s3,s4⟩
  refine ⟨s4,?_⟩
  have Mq:Ext E (dP h0) w E'.cut (dP st.g) w':=by
   have hl:∀ k,(dP st.g).live k->st.live k:=by
    intro k hk
    obtain ⟨n,rfl,o,ho⟩:=nX hk
    exact ⟨o,ho⟩
   refine ⟨⟨s2.le.j6,s2.le.ng,by rw [tO];exact Nat.zero_le _,s2.le.loc⟩,s2.size,s2.fT,fun k hk he=>s2.gT k (hl k hk) he,fun k hk he=>s2.iB k (hl k hk) he,s2.same,s2.os,s2.out,s2.tape⟩
  unfold eX at hr
  cases vH:nO fr st F.results with
  |none=>rw [vH] at hr;exact hr.elim
  |some us=>
   obtain ⟨xs,LC,BU⟩:=EE (P:=P) s3 s1 fn.results.toList F.results us k3 vH
   have hm:(fn.results.mapM (fun
    |.tmp t=>pure (a.tmps.getD t undef)
    |.cell x t=>do loadVar t (<-asAddr (a.tmps.getD x undef)):ResultVar->Sem Value)).run P w'=.ok xs.toArray w':=by
    have e:fn.results=fn.results.toList.toArray:=by simp
    rw [e,List.mapM_toArray,map_eq_pure_bind]
    simp only [Sem.run_bind]
    erw [LC]
    simp only [Result.andThen_ok,Sem.run_pure]
   have hlen:=BU.1
   rw [vH] at hr
   match us,xs,hlen,BU,hr,hm with
   |[v],[x],_,BU,hr,hm=>
    refine ⟨x,?_,v,x,st.g,E'.cut,hr,rfl,rfl,s1.cut,Mq,BU.2 0 v x rfl (by simp)⟩
    simp only [results,Sem.run_bind]
    exact fM hm (by simp)
   |[],[],_,BU,hr,hm=>
    refine ⟨.tuple #[],?_,.bY [],.tuple #[],st.g,E'.cut,hr,rfl,rfl,s1.cut,Mq,gC⟩
    simp only [results,Sem.run_bind]
    exact fM hm (by simp)
   |v1::v2::vr,x1::x2::xr,_,BU,hr,hm=>
    refine ⟨.tuple (x1::x2::xr).toArray,?_,.bY (v1::v2::vr),_,st.g,E'.cut,hr,rfl,rfl,s1.cut,Mq,.bY _ _ BU.1 BU.2⟩
    simp only [results,Sem.run_bind]
    exact fM hm (by simp)
 intro e a w' hq
 cases e with
 |normal=>exact fin a w' hq
 |ret=>exact fin a w' hq
 |exit id=>obtain ⟨fr,st,E',h1,_⟩:=hq;exact h1.elim
 |goto l=>exact hq.elim
 |panic ch=>exact hq.elim
 |outgrown=>exact hq.elim
theorem Yh {f:Nat} {F:aZ} (hk:gU P f F=true) {args:List V} (hn:args.length=F.nparams) {K:V->aA->Prop}
 (hw:Pr 0 (aC P) F.body (wC F.results K) (b9 0 args) (dP iJ)):aC P f args iJ K:=Sy hk hn hw
end
open Go
structure bD (N:Nat) (A:b7) (b:AC) (ib:A4) (Q:Ex->Fr->St->Prop) (fr:Fr) (st:St):Prop where
 h:∀ R:Fr->St->Prop,(∀ fr st cF cB,Ai N fr st cF cB->ib (qG R Q) cF cB->R fr st)->R fr st
theorem bD.by {N:Nat} {A:b7} {b:AC} {ib:A4} {Q:Ex->Fr->St->Prop} {fr:Fr} {st:St} (I:Nat->Fr->St->Prop) (n:Nat) (h0:∃ cF cB,Ai N fr st cF cB/\I n cF cB)
 (hs:∀ n fr st,I n fr st->∀ R:Fr->St->Prop,(∀ m fr st,m<n->(∃ cF cB,Ai N fr st cF cB/\I m cF cB)->R fr st)->ib (qG R Q) fr st):bD N A b ib Q fr st:=by
 refine ⟨fun R hR=>?_⟩
 have key:∀ n fr st,(∃ cF cB,Ai N fr st cF cB/\I n cF cB)->R fr st:=by
  intro n
  induction n using Nat.strongRecOn with
  |_ n ih=>
   rintro fr st ⟨cF,cB,hc,hi⟩
   exact hR fr st cF cB hc (hs n cF cB hi R fun m fr st hm hi=>ih m hm fr st hi)
 exact key n fr st h0
noncomputable def Uy (N:Nat) (A:b7) (c:AC):A4:=
 AC.rec (motive:=fun _=>A4) (fun Q fr st=>Q .normal fr st) (fun ops Q fr st=>(kB ops fr st).sq A (iY Q)) (fun ds kill Q fr st=>((wG ds [] fr st).bq (vB kill)).sq A (iY Q))
  (fun _ _ ia ib Q fr st=>ia (qG (ib Q) Q) fr st)
  (fun c _ _ ia ib Q fr st=>match c.ev fr with
    |.b x=>aH x (ia Q fr st) (ib Q fr st)
    |_=>False)
  (fun id _ ib Q fr st=>ib (j9 id Q) fr st) (fun b ib Q fr st=>bD N A b ib Q fr st) (fun id Q fr st=>Q (.exit id) fr st) (fun Q fr st=>Q .ret fr st) (fun _ _ _=>False) c
theorem Ku (N:Nat) (A:b7) (c:bL) (a b:AC) (Q:Ex->Fr->St->Prop) (fr:Fr) (st:St):Uy N A (.cond c a b) Q fr st=match c.ev fr with
 |.b x=>aH x (Uy N A a Q fr st) (Uy N A b Q fr st)
 |_=>False:=rfl
theorem wH {N:Nat} {A:b7} (hA:A.tV):∀ (c:AC) (Q Q':Ex->Fr->St->Prop) (fr:Fr) (st:St),Uy N A c Q fr st->(∀ e fr st,Q e fr st->Q' e fr st)->Pr N A c Q' fr st
 |.skip,Q,Q',fr,st,h,hq=>hq _ _ _ h
 |.BE ops,Q,Q',fr,st,h,hq=>by
  have h:(kB ops fr st).sq A (iY Q):=h
  rw [T.CM] at h
  exact T.wp_mono hA (fun ⟨_,_⟩ h=>hq _ _ _ h) (uD hA ops fr st _ (T.zM hA _ _ h))
 |.u0 ds kill,Q,Q',fr,st,h,hq=>by
  refine T.wp_mono hA (fun ⟨_,_⟩ h=>hq _ _ _ h) (?_:T.wp A _ (iY Q))
  have h:((wG ds [] fr st).bq (vB kill)).sq A (iY Q):=h
  rw [T.CM,T.ET] at h
  have h:=T.zM hA _ _ h
  rw [T.wp_bind] at h ⊢
  exact A3 hA _ _ _ _ _ h
 |.seq a b,Q,Q',fr,st,h,hq=>by
  refine wH hA a _ _ fr st h ?_
  intro e fr st h
  cases e with
  |normal=>exact wH hA b _ _ fr st h hq
  |exit id=>exact hq _ _ _ h
  |ret=>exact hq _ _ _ h
 |.cond c a b,Q,Q',fr,st,h,hq=>by
  rw [Ku] at h
  simp only [Pr]
  split at h
  · rename_i x hx
    try rw [hx]
    exact ⟨fun hc=>wH hA a _ _ _ _ (h.t hc) hq,fun hc=>wH hA b _ _ _ _ (h.f hc) hq⟩
  · exact h.elim
 |.bS id b,Q,Q',fr,st,h,hq=>by
  refine wH hA b _ _ fr st h ?_
  intro e fr st h
  cases e with
  |normal=>exact hq _ _ _ h
  |exit BG=>
   simp only [j9] at h ⊢
   split
   · rename_i hi;rw [if_pos hi] at h;exact hq _ _ _ h
   · rename_i hi;rw [if_neg hi] at h;exact hq _ _ _ h
  |ret=>exact hq _ _ _ h
 |.loop b,Q,Q',fr,st,h,hq=>by
  intro R hR
  refine h.h R fun fr st cF cB hl hx=>hR fr st cF cB hl ?_
  refine wH hA b _ _ cF cB hx ?_
  intro e fr st h
  cases e with
  |normal=>exact h
  |exit id=>exact hq _ _ _ h
  |ret=>exact hq _ _ _ h
 |.exit id,Q,Q',fr,st,h,hq=>hq _ _ _ h
 |.ret,Q,Q',fr,st,h,hq=>hq _ _ _ h
 |.no,_,_,_,_,h,_=>h.elim
theorem WJ {P:Program} {f:Nat} {F:aZ} (hk:gU P f F=true) {args:List V} (hn:args.length=F.nparams) {K:V->aA->Prop}
 (hw:(b9 0 args).fS fun fr=>Uy 0 (aC P) F.body (wC F.results K) fr (dP iJ)):aC P f args iJ K:=by
 rw [Fr.qK] at hw
 exact Yh hk hn (wH (aC.mono P) _ _ _ _ _ hw fun _ _ _ h=>h)
theorem acB {P:Program} {f:Nat} {F:aZ} (hk:gU P f F=true) {args:List V} (hn:args.length=F.nparams) {h0:aA} {K:V->aA->Prop}
 (hw:(b9 0 args).fS fun fr=>Uy h0.next (aC P) F.body (wC F.results K) fr (dP h0)):aC P f args h0 K:=by
 rw [Fr.qK] at hw
 exact Sy hk hn (wH (aC.mono P) _ _ _ _ _ hw fun _ _ _ h=>h)
theorem qO {N:Nat} {A:b7} (hA:A.tV):∀ (c:AC) (Q Q':Ex->Fr->St->Prop) (fr:Fr) (st:St),Uy N A c Q fr st->(∀ e fr st,Q e fr st->Q' e fr st)->Uy N A c Q' fr st
 |.skip,Q,Q',fr,st,h,hq=>hq _ _ _ h
 |.BE ops,Q,Q',fr,st,h,hq=>by
  have h:(kB ops fr st).sq A (iY Q):=h
  show (kB ops fr st).sq A (iY Q')
  rw [T.CM] at h ⊢
  exact T.rN hA _ (fun ⟨_,_⟩ h=>hq _ _ _ h) h
 |.u0 ds kill,Q,Q',fr,st,h,hq=>by
  have h:((wG ds [] fr st).bq (vB kill)).sq A (iY Q):=h
  show ((wG ds [] fr st).bq (vB kill)).sq A (iY Q')
  rw [T.CM] at h ⊢
  exact T.rN hA _ (fun ⟨_,_⟩ h=>hq _ _ _ h) h
 |.seq a b,Q,Q',fr,st,h,hq=>by
  refine qO hA a _ _ fr st h ?_
  intro e fr st h
  cases e with
  |normal=>exact qO hA b _ _ fr st h hq
  |exit id=>exact hq _ _ _ h
  |ret=>exact hq _ _ _ h
 |.cond c a b,Q,Q',fr,st,h,hq=>by
  rw [Ku] at h ⊢
  split at h
  · exact ⟨fun hc=>qO hA a _ _ _ _ (h.t hc) hq,fun hc=>qO hA b _ _ _ _ (h.f hc) hq⟩
  · exact h.elim
 |.bS id b,Q,Q',fr,st,h,hq=>by
  refine qO hA b _ _ fr st h ?_
  intro e fr st h
  cases e with
  |normal=>exact hq _ _ _ h
  |exit BG=>
   simp only [j9] at h ⊢
   split
   · rename_i hi;rw [if_pos hi] at h;exact hq _ _ _ h
   · rename_i hi;rw [if_neg hi] at h;exact hq _ _ _ h
  |ret=>exact hq _ _ _ h
 |.loop b,Q,Q',fr,st,h,hq=>by
  refine bD.mk fun R hR=>h.h R fun fr st cF cB hl hx=>hR fr st cF cB hl ?_
  refine qO hA b _ _ cF cB hx ?_
  intro e fr st h
  cases e with
  |normal=>exact h
  |exit id=>exact hq _ _ _ h
  |ret=>exact hq _ _ _ h
 |.exit id,Q,Q',fr,st,h,hq=>hq _ _ _ h
 |.ret,Q,Q',fr,st,h,hq=>hq _ _ _ h
 |.no,_,_,_,_,h,_=>h.elim
theorem bD.un {N:Nat} {P:Program} {b:AC} {ib:A4} {Q:Ex->Fr->St->Prop} {fr:Fr} {st:St} (hib:Uy N (aC P) b=ib) (h:ib (qG (bD N (aC P) b ib Q) Q) fr st):bD N (aC P) b ib Q fr st:=by
 subst hib
 refine ⟨fun R hR=>hR fr st fr st (.inl ⟨rfl,rfl⟩) (qO (aC.mono P) b _ _ fr st h ?_)⟩
 intro e fr st hx
 cases e with
 |normal=>exact hx.h R hR
 |exit id=>exact hx
 |ret=>exact hx
def CN (ρ:Ren) (b:qM) (F:Fz) (cF fr:Fr):Prop:=∀ t,Pp ρ b F (fr.get t) (cF.get t)
theorem CN.nil {ρ:Ren} {b:qM} {F:Fz} {fr:Fr}:CN ρ b F [] fr:=fun _=>.inl (.inl .gD)
theorem CN.cons {ρ:Ren} {b:qM} {F:Fz} {n:Nat} {v:V} {r fr:Fr} (h:Pp ρ b F (fr.get n) v) (hr:CN ρ b F r fr):CN ρ b F ((n,v)::r) fr:=by
 intro t
 simp only [Fr.get]
 split
 · rename_i hn;subst hn;exact h
 · exact hr t
def yY (ρ:Ren) (F:Fz) (mk:Nat->Key) (f:Nat->Nat) (n:Nat) (b:qM) (h:aA):List (Nat×Obj)->Prop
 |[]=>True
 |q::r=>(q.1<n/\F (mk (f q.1))=none/\∃ o,h.get (f q.1)=some o/\ZF ρ b F o q.2)/\yY ρ F mk f n b h r
theorem yY.get {ρ:Ren} {F:Fz} {mk:Nat->Key} {f:Nat->Nat} {n:Nat} {b:qM} {h:aA}:∀ {l:List (Nat×Obj)},yY ρ F mk f n b h l->∀ {k:Nat} {o:Obj},aA.find l k=some o->k<n/\F (mk (f k))=none/\∃ o0,h.get (f k)=some o0/\ZF ρ b F o0 o
 |[],_,k,o,hk=>by simp [aA.find] at hk
 |(i,x)::r,hh,k,o,hk=>by
  simp only [aA.find] at hk
  split at hk
  · rename_i e
    subst e
    cases hk
    exact hh.1
  · exact yY.get hh.2 hk
theorem ML.of {N:Nat} {ρ:Ren} {F:Fz} {fr cF:Fr} {st cB:St} (hz:Cf st F) (hg:yY ρ F .g ρ.g cB.g.next ⟨cB.g.next,0⟩ st.g cB.g.tP) (hl:yY ρ F .l ρ.l cB.l.next ⟨cB.g.next,cB.l.next⟩ st.l cB.l.tP)
 (ig:∀ i,i<cB.g.next->∀ j,j<cB.g.next->ρ.g i=ρ.g j->i=j) (il:∀ i,i<cB.l.next->∀ j,j<cB.l.next->ρ.l i=ρ.l j->i=j)
 (hf:CN ρ ⟨cB.g.next,cB.l.next⟩ F cF fr) (hN:∀ i,i<N->ρ.g i=i) (hN2:N<=cB.g.next):Ai N fr st cF cB:=by
 refine .inr ⟨ρ,F,?_,hN,hN2⟩
 have eO:∀ k o',cB.get k=some o'->cB.lim.has k/\F (ρ.key k)=none/\∃ o,st.get (ρ.key k)=some o/\ZF ρ (k.lim cB.lim) F o o':=by
  intro k o hk
  cases k with
  |g n=>exact hg.get hk
  |l n=>exact hl.get hk
 refine ⟨hz,fun k k' ⟨o,hk⟩ ⟨o',iT⟩ e=>?_,eO,hf⟩
 have h1:=(eO k o hk).1
 have h2:=(eO k' o' iT).1
 cases k with
 |g n=>cases k' with
  |g m=>
   simp only [Ren.key,Key.g.injEq] at e
   rw [ig n h1 m h2 e]
  |l m=>simp [Ren.key] at e
 |l n=>cases k' with
  |g m=>simp [Ren.key] at e
  |l m=>
   simp only [Ren.key,Key.l.injEq] at e
   rw [il n h1 m h2 e]
open Go
theorem Sz {v:V} (h:v.flat=true) (ρ:Ren):v.gV ρ=v:=by
 cases v<;>simp [V.flat] at h<;>(try rfl)
 case sl t z e=>cases t<;>first|rfl|simp at h
theorem Vi {v:V} (h:v.flat=true) (b:qM):v.bd0 b:=by
 cases v<;>simp [V.flat] at h<;>(try trivial)
 case sl t z e=>cases t<;>first|trivial|simp at h
theorem jG {ρ:Ren} {b:qM} {F:Fz} {v:V} (h:v.flat=true):Ce ρ b F v v:=.Cd (Sz h ρ).symm (Vi h b)
theorem gH {ρ:Ren} {b:qM} {F:Fz}:∀ {l:List V},l.all V.flat=true->Ah ρ b F l l
 |[],_=>trivial
 |v::r,h=>by
  simp only [List.all_cons,Bool.and_eq_true] at h
  exact ⟨jG h.1,gH h.2⟩
theorem qP {ρ:Ren} {b:qM} {F:Fz} {v:V} (h:v.qI=true):Uw ρ b F v v:=by
 cases v
 case agg cs=>exact .inr (.inl ⟨cs,cs,rfl,rfl,gH h⟩)
 case fn f a c=>
  simp only [V.qI,Bool.and_eq_true] at h
  exact .inr (.inr ⟨f,a,c,a,c,rfl,rfl,gH h.1,gH h.2⟩)
 all_goals exact .inl (jG h)
theorem G4 {ρ:Ren} {b:qM} {F:Fz}:∀ {l:List V},l.all V.qI=true->MI ρ b F l l
 |[],_=>trivial
 |v::r,h=>by
  simp only [List.all_cons,Bool.and_eq_true] at h
  exact ⟨qP h.1,G4 h.2⟩
theorem wI {ρ:Ren} {b:qM} {F:Fz} {v:V} (h:v.free=true):Pp ρ b F v v:=by
 cases v
 case bY cs=>exact .inr ⟨cs,cs,rfl,rfl,G4 h⟩
 all_goals exact .inl (qP h)
theorem mG {st:St}:Cf st gG:=fun k sz ds h=>by cases h
theorem IS {ρ:Ren} {b:qM} {F:Fz} {k k':Key} {sz:Nat} {es:List (List V)} (e:ρ.key k'=k) (h:b.has k'):Pp ρ b F (.sl (some k) sz es) (.sl (some k') sz es):=
 .inl (.inl (.Cd (by simp only [V.gV,e]) h))
theorem tA {ρ:Ren} {b:qM} {F:Fz} {t:Option Key} {sz:Nat} {es:List (List V)}:Pp ρ b F (.sl t sz es) (.sl none sz es):=by
 cases t with
 |none=>exact .inl (.inl (.Cd rfl trivial))
 |some k=>exact .inl (.inl .tok)
theorem A6 {ρ:Ren} {b:qM} {F:Fz} {sz:Nat}:Pp ρ b F .aS (.sl none sz []):=.inl (.inl .nil)
theorem SA {ρ:Ren} {b:qM} {F:Fz} {k k':Key} {o:Nat} (e:ρ.key k'=k) (h:b.has k'):Pp ρ b F (.p k o) (.p k' o):=.inl (.inl (.Cd (by simp only [V.gV,e]) h))
theorem SB {ρ:Ren} {b:qM} {F:Fz} {k k':Key} {sz s n:Nat} (e:ρ.key k'=k) (h:b.has k'):Pp ρ b F (.ms k sz s n) (.ms k' sz s n):=.inl (.inl (.Cd (by simp only [V.gV,e]) h))
theorem WK {ρ:Ren} {b:qM} {F:Fz} {k k':Key} (e:ρ.key k'=k) (h:b.has k'):Pp ρ b F (.m k) (.m k'):=.inl (.inl (.Cd (by simp only [V.gV,e]) h))
def WL:Ren:=⟨id,id⟩
theorem ahZ {fr cF:Fr} {st:St} (hf:CN WL ⟨0,0⟩ gG cF fr):IQ fr st cF (dP iJ):=
 ML.of mG trivial trivial (fun i hi=>absurd hi (Nat.not_lt_zero _)) (fun i hi=>absurd hi (Nat.not_lt_zero _)) hf (fun i hi=>absurd hi (Nat.not_lt_zero _)) (Nat.zero_le _)
def st1:St:=⟨iJ,⟨1,[(0,.spare)]⟩⟩
theorem ah0 (ks:List Nat) {n:Nat} {tP:List (Nat×Obj)} {fr cF:Fr} {st:St} (hn:ks.length=n) (hd:ks.Nodup) (hl:yY ⟨id,fun i=>ks.getD i 0⟩ gG .l (fun i=>ks.getD i 0) n ⟨0,n⟩ st.l tP) (hf:CN ⟨id,fun i=>ks.getD i 0⟩ ⟨0,n⟩ gG cF fr):
 IQ fr st cF ⟨iJ,⟨n,tP⟩⟩:=by
 refine ML.of mG trivial hl (fun i hi=>absurd hi (Nat.not_lt_zero _)) (fun i hi j hj e=>?_) hf (fun i hi=>absurd hi (Nat.not_lt_zero _)) (Nat.zero_le _)
 have h1:i<ks.length:=by rw [hn];exact hi
 have h2:j<ks.length:=by rw [hn];exact hj
 have e':ks.getD i 0=ks.getD j 0:=e
 simp only [List.getD_eq_getElem?_getD,List.getElem?_eq_getElem h1,List.getElem?_eq_getElem h2,Option.getD_some] at e'
 exact (List.getElem_inj hd).1 e'
theorem A7 {ks:List Nat} {n:Nat} (hn:ks.length=n) (hd:ks.Nodup):∀ i,i<n->∀ j,j<n->ks.getD i 0=ks.getD j 0->i=j:=by
 intro i hi j hj e
 have h1:i<ks.length:=by omega
 have h2:j<ks.length:=by omega
 simp only [List.getD_eq_getElem?_getD,List.getElem?_eq_getElem h1,List.getElem?_eq_getElem h2,Option.getD_some] at e
 exact (List.getElem_inj hd).1 e
theorem acD (gs ls:List Nat) {n m:Nat} {wJ wK:List (Nat×Obj)} {fr cF:Fr} {st:St} (hn:gs.length=n) (hm:ls.length=m) (hd:gs.Nodup) (he:ls.Nodup)
 (hg:yY ⟨fun i=>gs.getD i 0,fun i=>ls.getD i 0⟩ gG .g (fun i=>gs.getD i 0) n ⟨n,0⟩ st.g wJ) (hl:yY ⟨fun i=>gs.getD i 0,fun i=>ls.getD i 0⟩ gG .l (fun i=>ls.getD i 0) m ⟨n,m⟩ st.l wK)
 (hf:CN ⟨fun i=>gs.getD i 0,fun i=>ls.getD i 0⟩ ⟨n,m⟩ gG cF fr):IQ fr st cF ⟨⟨n,wJ⟩,⟨m,wK⟩⟩:=
 ML.of mG hg hl (A7 hn hd) (A7 hm he) hf (fun i hi=>absurd hi (Nat.not_lt_zero _)) (Nat.zero_le _)
theorem Yi (N:Nat) (gs ls:List Nat) {n m:Nat} {wJ wK:List (Nat×Obj)} {fr cF:Fr} {st:St} (hn:gs.length=n) (hm:ls.length=m) (hd:gs.Nodup) (he:ls.Nodup) (hN:∀ i,i<N->gs.getD i 0=i) (hN2:N<=n)
 (hg:yY ⟨fun i=>gs.getD i 0,fun i=>ls.getD i 0⟩ gG .g (fun i=>gs.getD i 0) n ⟨n,0⟩ st.g wJ) (hl:yY ⟨fun i=>gs.getD i 0,fun i=>ls.getD i 0⟩ gG .l (fun i=>ls.getD i 0) m ⟨n,m⟩ st.l wK)
 (hf:CN ⟨fun i=>gs.getD i 0,fun i=>ls.getD i 0⟩ ⟨n,m⟩ gG cF fr):Ai N fr st cF ⟨⟨n,wJ⟩,⟨m,wK⟩⟩:=
 ML.of mG hg hl (A7 hn hd) (A7 hm he) hf hN hN2
theorem mH {α:Type} {R:α->List V} {ρ:Ren} {b:qM} {F:Fz} (h:∀ x,(R x).all V.flat=true):∀ l:List α,Kt ρ b F (l.map R) (l.map R)
 |[]=>trivial
 |x::r=>⟨gH (h x),mH h r⟩
def qQ (Q:V->Prop) (v:V) (h':aA):Prop:=∃ ρ F u,ML ρ F [(0,v)] (dP h') [(0,u)] (dP iJ)/\u.free=true/\Q u
theorem DI {ρ:Ren} {F:Fz} {v u:V} {h':aA} (hz:Cf (dP h') F) (hc:Pp ρ ⟨0,0⟩ F v u):ML ρ F [(0,v)] (dP h') [(0,u)] (dP iJ):=by
 refine ⟨hz,fun k k' hk=>absurd hk cI,fun k o hk=>absurd ⟨o,hk⟩ cI,fun t=>?_⟩
 simp only [Fr.get]
 split
 · exact hc
 · exact .inl (.inl .gD)
def gV:Ren:=⟨id,id⟩
theorem aG {Q:V->Prop} {v:V} {h':aA} (hf:v.free=true) (hq:Q v):qQ Q v h':=⟨gV,gG,v,DI mG (wI hf),hf,hq⟩
theorem iR {Q:V->Prop} {t:Option Key} {sz:Nat} {es:List (List V)} {h':aA} (hq:Q (.sl none sz es)):qQ Q (.sl t sz es) h':=⟨gV,gG,_,DI mG tA,rfl,hq⟩
theorem pure_nil {Q:V->Prop} {sz:Nat} {h':aA} (hq:Q (.sl none sz [])):qQ Q .aS h':=⟨gV,gG,_,DI mG A6,rfl,hq⟩
theorem yD {Q:V->Prop} {v u:V} {h':aA} (F:Fz) (hz:Cf (dP h') F) (hc:Pp gV ⟨0,0⟩ F v u) (hf:u.free=true) (hq:Q u):qQ Q v h':=⟨gV,F,u,DI hz hc,hf,hq⟩
def Uz (k:Nat) (sz:Nat) (ds:List (List V)):Fz:=fun k'=>if k'=.g k then some (sz,ds) else none
theorem IT {k sz:Nat} {es ds:List (List V)} {h':aA} (h:h'.get k=some (.arr sz es)) (hd:eC es=some ds):Cf (dP h') (Uz k sz ds):=by
 intro k' eD ds' e
 unfold Uz at e
 split at e
 · rename_i hk;subst hk;cases e;exact ⟨es,h,hd⟩
 · cases e
theorem uE {Q:V->Prop} {k sz s n:Nat} {es ds:List (List V)} {h':aA} (h:h'.get k=some (.arr sz es)) (hd:eC es=some ds) (hn:s+n<=ds.length) (hq:Q (.sl none sz ((ds.drop s).take n))):qQ Q (.ms (.g k) sz s n) h':=
 yD (Uz k sz ds) (IT h hd) (.inl (.inl (.ZD (by simp [Uz]) hn rfl))) rfl hq
theorem aP {P:Program} {f:Nat} {F:aZ} (hk:gU P f F=true) {args:List V} (hn:args.length=F.nparams) {Q:V->Prop}
 (hw:(b9 0 args).fS fun fr=>Uy 0 (aC P) F.body (wC F.results (qQ Q)) fr (dP iJ)):Pure P f args Q:=WJ hk hn hw
theorem Kv (k:Key):gV.key k=k:=by cases k<;>rfl
theorem N8 (v:V):v.gV gV=v:=by
 cases v<;>(try rfl)<;>(try simp only [V.gV,Kv])
 case sl t z e=>cases t<;>simp only [V.gV,Kv]
def NwL:List V->List V->Prop:=MI gV ⟨0,0⟩ gG
theorem G5 {E:Env} (hn:Env) (hI:hn={ E with ng:=0,nl:=0 }) {u v:V} {x:Value} (hc:Ce gV ⟨0,0⟩ gG u v) (hr:Rel E u x):Rel E v x:=by
 cases hc with
 |Cd e hb=>
  have:v.gV gV=v:=N8 v
  rw [e,this] at hr
  exact hr
 |ZD h=>cases h
 |tok=>cases hr with
  |deep hd=>cases hd
  |F4 _ _ _ a cap hk hd H0 Ay=>exact .deep hd
 |@rows t sz es ds h=>cases hr with
  |deep hd=>
   cases t with
   |some k=>cases hd
   |none=>exact .deep (hd.nd (.sl h))
  |F4 _ _ _ a cap hk hd H0 Ay=>exact .deep (hd.nd (.sl h))
 |nil=>cases hr with
  |deep hd=>cases hd with
   |aS=>exact .deep (.nW _)
 |gD=>exact .gD x
theorem EU {E:Env} {u v:V} {x:Value} (hc:Uw gV ⟨0,0⟩ gG u v) (hr:Rel E u x):Rel E v x:=by
 rcases hc with hc|⟨cs,ds,rfl,rfl,hc⟩|⟨f,a,c,a',c',rfl,rfl,ha,hc⟩
 · exact G5 _ rfl hc hr
 · cases hr with
   |deep hd=>cases hd
   |agg _ xs hn h1 hr=>
    obtain ⟨c1,c2⟩:=hc.spec
    exact .agg _ _ (by omega) h1 fun j v x hj hx=>by
     obtain ⟨u,hu,hc⟩:=c2 j v hj
     exact G5 _ rfl hc (hr j u x hu hx)
 · cases hr with
   |deep hd=>cases hd
   |fn _ _ _ ya yc ZG hnc Jq QP=>
    obtain ⟨a1,a2⟩:=ha.spec
    obtain ⟨c1,c2⟩:=hc.spec
    exact .fn _ _ _ _ _ (by omega) (by omega) (fun j v x hj hx=>by
     obtain ⟨u,hu,hc⟩:=a2 j v hj
     exact G5 _ rfl hc (Jq j u x hu hx)) (fun j v x hj hx=>by
     obtain ⟨u,hu,hc⟩:=c2 j v hj
     exact G5 _ rfl hc (QP j u x hu hx))
theorem aC.less {P:Program} {f:Nat} {args args':List V} {h:aA} {K:V->aA->Prop} (hr:NwL args args') (h0:aC P f args' h K):aC P f args h K:=by
 refine ⟨h0.1,fun E w vs tO hs hv=>h0.2 E w vs tO hs ?_⟩
 obtain ⟨c1,c2⟩:=hr.spec
 refine ⟨by have:=hv.1;omega,fun j v x hj hx=>?_⟩
 obtain ⟨u,hu,hc⟩:=c2 j v hj
 exact EU hc (hv.2 j u x hu hx)
theorem Pure.call {P:Program} {f:Nat} {args args':List V} {Q:V->Prop} (h0:Pure P f args' Q) (hr:NwL args args') (ha:args'.all V.free=true) {h:aA} {K:V->aA->Prop} (hK:∀ u,Q u->K u h):aC P f args h K:=
 (h0.use ha fun u _ hq=>hK u hq).less hr
theorem Pure.EV {P:Program} {f:Nat} {args args':List V} {u:V} (h0:Pure P f args' (·=u)) (hr:NwL args args') (ha:args'.all V.free=true) {h:aA} {K:V->aA->Prop} (hK:K u h):aC P f args h K:=
 h0.call hr ha fun v hv=>hv▸hK
theorem Gq {v:V} (h:v.qI=true):v.free=true:=by
 cases v<;>first|exact h|simp [V.qI,V.flat] at h
theorem EW {l:List V} (h:l.all V.qI=true):l.all V.free=true:=by
 rw [List.all_eq_true] at h ⊢
 exact fun x hx=>Gq (h x hx)
theorem Pure.go {P:Program} {f:Nat} {args:List V} {u:V} (h0:Pure P f args (·=u)) (ha:args.all V.qI=true) {h:aA} {K:V->aA->Prop} (hK:K u h):aC P f args h K:=
 h0.use (EW ha) fun v _ hv=>hv▸hK
end Go.Eng
