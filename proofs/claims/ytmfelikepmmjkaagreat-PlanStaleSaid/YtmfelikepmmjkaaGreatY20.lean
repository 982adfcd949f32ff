/-
Memory told anew: objects under other numbers, those that nobody names left out, rows that are never written again laid open.
-/
import Derived.Test.YtmfelikepmmjkaaGreatY08
set_option linter.unusedVariables false
set_option linter.unusedSimpArgs false
namespace Go.Eng
open Go
abbrev Fz:=Key->Option (Nat×List (List V))
def gA:Fz:=fun _=>none
mutual
inductive Nd:V->V->Prop where
 |refl (v:V):Nd v v
 |nil (sz:Nat):Nd .aV (.sl none sz [])
 |sl {sz:Nat} {es ds:List (List V)} (h:Cj es ds):Nd (.sl none sz es) (.sl none sz ds)
inductive ME:List V->List V->Prop where
 |nil:ME [] []
 |cons {u v:V} {r q:List V} (h:Nd u v) (t:ME r q):ME (u::r) (v::q)
inductive Cj:List (List V)->List (List V)->Prop where
 |nil:Cj [] []
 |cons {u v:List V} {r q:List (List V)} (h:ME u v) (t:Cj r q):Cj (u::r) (v::q)
end
theorem ME.append:∀ {l q l' q':List V},ME l q->ME l' q'->ME (l++l') (q++q')
 |[],_,_,_,.nil,h=>h
 |_::_,_,_,_,.cons h t,h'=>.cons h (t.append h')
theorem Cj.flat:∀ {l q:List (List V)},Cj l q->ME l.flatten q.flatten
 |[],_,.nil=>.nil
 |_::_,_,.cons h t=>by rw [List.flatten_cons,List.flatten_cons];exact h.append t.flat
theorem ME.spec:∀ {l q:List V},ME l q->q.length=l.length/\∀ (j:Nat) (v:V),q[j]? =some v->∃ u,l[j]? =some u/\Nd u v
 |[],_,.nil=>⟨rfl,fun j v h=>by simp at h⟩
 |u::r,_,.cons h t=>by
  obtain ⟨h1,h2⟩:=ME.spec t
  refine ⟨by simp [h1],fun j w hj=>?_⟩
  cases j with
  |zero=>simp at hj;subst hj;exact ⟨u,rfl,h⟩
  |succ j=>obtain ⟨x,h3,h4⟩:=h2 j w (by simpa using hj);exact ⟨x,by simpa using h3,h4⟩
theorem Cj.len {sz:Nat}:∀ {l q:List (List V)},Cj l q->(∀ e∈l,e.length=sz)->q.length=l.length/\∀ e∈q,e.length=sz
 |[],_,.nil,_=>⟨rfl,fun e he=>by cases he⟩
 |_::_,_,.cons h t,hl=>by
  obtain ⟨h1,h2⟩:=t.len (fun e he=>hl e (.tail _ he))
  refine ⟨by simp [h1],fun e he=>?_⟩
  cases he with
  |head=>rw [h.spec.1];exact hl _ (.head _)
  |tail _ he=>exact h2 e he
theorem eT.nd {I:zA} {u:V} {x:Value} (hr:eT I u x):∀ {v:V},Nd u v->eT I v x:=by
 induction hr with
 |b x=>intro v h;cases h;exact .b x
 |i k n=>intro v h;cases h;exact .i k n
 |s l=>intro v h;cases h;exact .s l
 |aV=>intro v h;cases h with
  |refl=>exact .aV
  |nil sz=>exact .mS sz
 |mS sz=>intro v h;cases h with
  |refl=>exact .mS sz
  |sl h=>cases h;exact .mS sz
 |Kp sz a hs=>intro v h;cases h with
  |refl=>exact .Kp sz a hs
  |sl h=>cases h;exact .Kp sz a hs
 |sl sz es bL off cap val hc hl hv hr ih=>intro v h;cases h with
  |refl=>exact .sl sz es bL off cap val hc hl hv hr
  |@sl _ _ ds h=>
   obtain ⟨l1,l2⟩:=h.len hl
   obtain ⟨s1,s2⟩:=h.flat.spec
   rw [<-l1]
   refine .sl sz ds bL off cap val (by omega) l2 (fun j d hj=>?_) (fun j d hj=>?_)
   · obtain ⟨u,hu,_⟩:=s2 j d hj;exact hv j u hu
   · obtain ⟨u,hu,hn⟩:=s2 j d hj;exact ih j u hu hn
inductive Ce (ρ:Ren) (b:pT) (F:Fz):V->V->Prop where
 |A6 {u v:V} (e:u=v.gV ρ) (h:v.bd0 b):Ce ρ b F u v
 |XI {k:Key} {sz s n:Nat} {ds es:List (List V)} (h:F k=some (sz,ds)) (hn:s+n<=ds.length) (he:es=(ds.drop s).take n):Ce ρ b F (.ms k sz s n) (.sl none sz es)
 |tok {k:Key} {sz:Nat} {es:List (List V)}:Ce ρ b F (.sl (some k) sz es) (.sl none sz es)
 |rows {t:Option Key} {sz:Nat} {es ds:List (List V)} (h:Cj es ds):Ce ρ b F (.sl t sz es) (.sl none sz ds)
 |nil {sz:Nat}:Ce ρ b F .aV (.sl none sz [])
 |fK {v:V}:Ce ρ b F v .fK
def yZ (ρ:Ren) (b:pT) (F:Fz):List V->List V->Prop
 |[],[]=>True
 |u::r,v::q=>Ce ρ b F u v/\yZ ρ b F r q
 |_,_=>False
def Jf (ρ:Ren) (b:pT) (F:Fz):List (List V)->List (List V)->Prop
 |[],[]=>True
 |u::r,v::q=>yZ ρ b F u v/\Jf ρ b F r q
 |_,_=>False
def Sm (ρ:Ren) (b:pT) (F:Fz) (u v:V):Prop:=
 Ce ρ b F u v\/(∃ cs ds,u=.agg cs/\v=.agg ds/\yZ ρ b F cs ds)\/∃ f a c a' c',u=.fn f a c/\v=.fn f a' c'/\yZ ρ b F a a'/\yZ ρ b F c c'
def Lk (ρ:Ren) (b:pT) (F:Fz):List V->List V->Prop
 |[],[]=>True
 |u::r,v::q=>Sm ρ b F u v/\Lk ρ b F r q
 |_,_=>False
def OY (ρ:Ren) (b:pT) (F:Fz) (u v:V):Prop:=
 Sm ρ b F u v\/∃ cs ds,u=.bY cs/\v=.bY ds/\Lk ρ b F cs ds
def Zk (ρ:Ren) (b:pT) (F:Fz):List (V×V)->List (V×V)->Prop
 |[],[]=>True
 |u::r,v::q=>(u.1=v.1/\Sm ρ b F u.2 v.2)/\Zk ρ b F r q
 |_,_=>False
def XJ (ρ:Ren) (b:pT) (F:Fz):Obj->Obj->Prop
 |.cs c,.cs d=>yZ ρ b F c d
 |.arr sz es,.arr dS ds=>sz=dS/\Jf ρ b F es ds
 |.spare,.spare=>True
 |.mp kd es,.mp H7 ds=>kd=H7/\Zk ρ b F es ds
 |_,_=>False
theorem yZ.spec {ρ:Ren} {b:pT} {F:Fz}:∀ {l q:List V},yZ ρ b F l q->q.length=l.length/\∀ (j:Nat) (v:V),q[j]? =some v->∃ u,l[j]? =some u/\Ce ρ b F u v
 |[],[],_=>⟨rfl,fun j v h=>by simp at h⟩
 |u::r,v::q,h=>by
  obtain ⟨h1,h2⟩:=yZ.spec h.2
  refine ⟨by simp [h1],fun j w hj=>?_⟩
  cases j with
  |zero=>simp at hj;subst hj;exact ⟨u,rfl,h.1⟩
  |succ j=>obtain ⟨x,h3,h4⟩:=h2 j w (by simpa using hj);exact ⟨x,by simpa using h3,h4⟩
 |[],_::_,h=>h.elim
 |_::_,[],h=>h.elim
theorem Lk.spec {ρ:Ren} {b:pT} {F:Fz}:∀ {l q:List V},Lk ρ b F l q->q.length=l.length/\∀ (j:Nat) (v:V),q[j]? =some v->∃ u,l[j]? =some u/\Sm ρ b F u v
 |[],[],_=>⟨rfl,fun j v h=>by simp at h⟩
 |u::r,v::q,h=>by
  obtain ⟨h1,h2⟩:=Lk.spec h.2
  refine ⟨by simp [h1],fun j w hj=>?_⟩
  cases j with
  |zero=>simp at hj;subst hj;exact ⟨u,rfl,h.1⟩
  |succ j=>obtain ⟨x,h3,h4⟩:=h2 j w (by simpa using hj);exact ⟨x,by simpa using h3,h4⟩
 |[],_::_,h=>h.elim
 |_::_,[],h=>h.elim
theorem Zk.spec {ρ:Ren} {b:pT} {F:Fz}:∀ {l q:List (V×V)},Zk ρ b F l q->q.length=l.length/\∀ (j:Nat) (v:V×V),q[j]? =some v->∃ u,l[j]? =some u/\u.1=v.1/\Sm ρ b F u.2 v.2
 |[],[],_=>⟨rfl,fun j v h=>by simp at h⟩
 |u::r,v::q,h=>by
  obtain ⟨h1,h2⟩:=Zk.spec h.2
  refine ⟨by simp [h1],fun j w hj=>?_⟩
  cases j with
  |zero=>simp at hj;subst hj;exact ⟨u,rfl,h.1⟩
  |succ j=>obtain ⟨x,h3,h4⟩:=h2 j w (by simpa using hj);exact ⟨x,by simpa using h3,h4⟩
 |[],_::_,h=>h.elim
 |_::_,[],h=>h.elim
theorem yZ.append {ρ:Ren} {b:pT} {F:Fz}:∀ {l q:List V},yZ ρ b F l q->∀ {l' q':List V},yZ ρ b F l' q'->yZ ρ b F (l++l') (q++q')
 |[],[],_,_,_,h=>h
 |_::_,_::_,h,_,_,h'=>⟨h.1,h.2.append h'⟩
 |[],_::_,h,_,_,_=>h.elim
 |_::_,[],h,_,_,_=>h.elim
theorem Jf.flat {ρ:Ren} {b:pT} {F:Fz}:∀ {l q:List (List V)},Jf ρ b F l q->yZ ρ b F l.flatten q.flatten
 |[],[],_=>trivial
 |u::r,v::q,h=>by rw [List.flatten_cons,List.flatten_cons];exact h.1.append h.2.flat
 |[],_::_,h=>h.elim
 |_::_,[],h=>h.elim
theorem Jf.len {ρ:Ren} {b:pT} {F:Fz} {sz:Nat}:∀ {l q:List (List V)},Jf ρ b F l q->(∀ e∈l,e.length=sz)->∀ e∈q,e.length=sz
 |[],[],_,_=>fun e he=>by cases he
 |u::r,v::q,h,hl=>fun e he=>by
  cases he with
  |head=>rw [h.1.spec.1];exact hl u (.head _)
  |tail _ he=>exact h.2.len (fun e he=>hl e (.tail _ he)) e he
 |[],_::_,h,_=>h.elim
 |_::_,[],h,_=>h.elim
def A7 (st:St) (F:Fz):Prop:=∀ k sz ds,F k=some (sz,ds)->∃ es,st.get k=some (.arr sz es)/\dR es=some ds
open Classical in
noncomputable def nS (E:Env) (w:World) (F:Fz):zA:=fun b o=>match E.I b o with
 |some x=>some x
 |none=>if ∃ k sz ds,F k=some (sz,ds)/\(E.μ k).bL=b/\(E.μ k).base<=o/\o<(E.μ k).base+ds.flatten.length then bI w b o else none
theorem CH (E:Env) (w:World) (F:Fz):∀ b o x,E.I b o=some x->nS E w F b o=some x:=fun b o x h=>by unfold nS;rw [h]
theorem NR {E:Env} {w:World} {F:Fz} (h:∀ b o x,E.I b o=some x->bI w b o=some x) {b o:Nat} {x:Value} (hx:nS E w F b o=some x):bI w b o=some x:=by
 unfold nS at hx
 split at hx
 · rename_i y hy;cases hx;exact h _ _ _ hy
 · split at hx
   · exact hx
   · cases hx
theorem QI {E:Env} {w:World} {F:Fz} {b o:Nat} {x:Value} (hx:nS E w F b o=some x):E.I b o=some x\/∃ k sz ds,F k=some (sz,ds)/\(E.μ k).bL=b:=by
 unfold nS at hx
 split at hx
 · rename_i y hy;cases hx;exact .inl hy
 · split at hx
   · rename_i h;obtain ⟨k,sz,ds,h1,h2,_⟩:=h;exact .inr ⟨k,sz,ds,h1,h2⟩
   · cases hx
theorem Tp {E:Env} {st:St} {w:World} {F:Fz} (hs:b9 E st w) (hF:A7 st F) {k:Key} {sz:Nat} {ds:List (List V)} (h:F k=some (sz,ds)):
 (∀ e∈ds,e.length=sz)/\∀ (j:Nat) (d:V),ds.flatten[j]? =some d->∃ x,nS E w F (E.μ k).bL ((E.μ k).base+j)=some x/\eT (nS E w F) d x:=by
 obtain ⟨es,h1,h2⟩:=hF k sz ds h
 obtain ⟨h3,h4,h5⟩:=jB h2
 obtain ⟨hl,cells,t,fz,c1,c2,c3,c4,c5⟩:=hs.obj k _ h1
 obtain ⟨h6,h7⟩:=mB h3
 refine ⟨h5 hl,fun j d hd=>?_⟩
 obtain ⟨v,hv,GP⟩:=h7 j d hd
 obtain ⟨x,hx,hr,_⟩:=c5 j v hv
 have cL:j<ds.flatten.length:=(List.getElem?_eq_some_iff.1 hd).1
 have nK:bI w (E.μ k).bL ((E.μ k).base+j)=some x:=by simp only [bI,c1];exact hx
 refine ⟨x,?_,(zF GP (hr.mono (E.C0 k))).mono (CH E w F)⟩
 unfold nS
 rw [hs.own k ⟨_,h1⟩ _ (Nat.le_add_right _ _) (by omega)]
 dsimp only
 rw [if_pos ⟨k,sz,ds,h,rfl,Nat.le_add_right _ _,by omega⟩]
 exact nK
structure Env.Sub (E E0:Env):Prop where
 I:E0.I=E.I
 μ:E0.μ=E.μ
def Env.QJ (E:Env) (ρ:Ren) (b:pT) (I:zA):Env:=⟨I,fun k=>E.μ (ρ.key k),b.g,b.l⟩
theorem Env.We (E:Env) (ρ:Ren) (b:pT) {I:zA} (h:∀ b o x,E.I b o=some x->I b o=some x):(E.A6 ρ b).Le (E.QJ ρ b I):=⟨h,Nat.le_refl _,Nat.le_refl _,fun _ _=>rfl⟩
section
variable {E:Env} {st:St} {w:World} {F:Fz} {ρ:Ren} {b:pT}
theorem Ll (hs:b9 E st w) (hF:A7 st F) {E0:Env} (h0:E.Sub E0) {u v:V} {x:Value} (hc:Ce ρ b F u v) (hr:Rel E0 u x):Rel (E0.QJ ρ b (nS E w F)) v x:=by
 have hI:∀ b o x,E0.I b o=some x->nS E w F b o=some x:=fun b o x h=>CH E w F b o x (by rw [<-h0.I];exact h)
 cases hc with
 |A6 e hb=>subst e;exact (QH hb hr).mono (E0.We ρ b hI)
 |@XI k sz s n ds es h hn he=>
  subst he
  obtain ⟨f1,f2⟩:=Tp hs hF h
  refine .deep ?_
  cases hr with
  |deep hd=>cases hd
  |ms _ _ _ _ a cap hk hc hf hb ha=>
   have hlen:((ds.drop s).take n).length=n:=by simp;omega
   rcases ha with ha|ha
   · obtain rfl:n=0:=by omega
     rw [ha]
     simp only [List.take_zero]
     exact eT.Cr sz _
   · rw [ha]
     have:=eT.sl (I:=nS E w F) sz ((ds.drop s).take n) (E0.μ k).bL ((E0.μ k).base+s*sz) cap (fun j=>((nS E w F (E0.μ k).bL ((E0.μ k).base+s*sz+j)).getD default)) (by omega)
      (fun e he=>f1 e (List.mem_of_mem_drop (List.mem_of_mem_take he))) ?_ ?_
     · rwa [hlen] at this
     · intro j d hj
       have hjj:ds.flatten[s*sz+j]? =some d:=by
        rw [lZ (fun e he=>f1 e (List.mem_of_mem_drop he)),mA f1] at hj
        rw [List.getElem?_take] at hj
        split at hj
        · rw [List.getElem?_drop] at hj;exact hj
        · cases hj
       obtain ⟨y,hy,_⟩:=f2 _ d hjj
       rw [h0.μ,Nat.add_assoc,hy]
       rfl
     · intro j d hj
       have hjj:ds.flatten[s*sz+j]? =some d:=by
        rw [lZ (fun e he=>f1 e (List.mem_of_mem_drop he)),mA f1] at hj
        rw [List.getElem?_take] at hj
        split at hj
        · rw [List.getElem?_drop] at hj;exact hj
        · cases hj
       obtain ⟨y,hy,hyr⟩:=f2 _ d hjj
       rw [h0.μ,Nat.add_assoc,hy]
       exact hyr
 |tok=>cases hr with
  |deep hd=>cases hd
  |EW _ _ _ a cap hk hd GN yX=>exact .deep (hd.mono hI)
 |@rows t sz es ds h=>cases hr with
  |deep hd=>
   cases t with
   |some k=>cases hd
   |none=>exact .deep ((hd.mono hI).nd (.sl h))
  |EW _ _ _ a cap hk hd GN yX=>exact .deep ((hd.mono hI).nd (.sl h))
 |nil=>cases hr with
  |deep hd=>cases hd with
   |aV=>exact .deep (.mS _)
 |fK=>exact .fK x
theorem Hv (hs:b9 E st w) (hF:A7 st F) {E0:Env} (h0:E.Sub E0) {l q:List V} (hc:yZ ρ b F l q) {xs:Array Value} (hn:xs.size=l.length)
 (hr:∀ (j:Nat) (v:V) (x:Value),l[j]? =some v->xs[j]? =some x->Rel E0 v x):xs.size=q.length/\∀ (j:Nat) (v:V) (x:Value),q[j]? =some v->xs[j]? =some x->Rel (E0.QJ ρ b (nS E w F)) v x:=by
 obtain ⟨h1,h2⟩:=hc.spec
 refine ⟨by omega,fun j v x hj hx=>?_⟩
 obtain ⟨u,hu,hc⟩:=h2 j v hj
 exact Ll hs hF h0 hc (hr j u x hu hx)
theorem Hw (hs:b9 E st w) (hF:A7 st F) {E0:Env} (h0:E.Sub E0) {u v:V} {x:Value} (hc:Sm ρ b F u v) (hr:Rel E0 u x):Rel (E0.QJ ρ b (nS E w F)) v x:=by
 rcases hc with hc|⟨cs,ds,rfl,rfl,hc⟩|⟨f,a,c,a',c',rfl,rfl,ha,hc⟩
 · exact Ll hs hF h0 hc hr
 · cases hr with
   |deep hd=>cases hd
   |agg _ xs hn h1 hr=>
    obtain ⟨h2,h3⟩:=Hv hs hF h0 hc hn hr
    exact .agg _ _ h2 h1 h3
 · cases hr with
   |deep hd=>cases hd
   |fn _ _ _ ya yc XK hnc HY O8=>
    obtain ⟨h2,h3⟩:=Hv hs hF h0 ha XK HY
    obtain ⟨h4,h5⟩:=Hv hs hF h0 hc hnc O8
    exact .fn _ _ _ _ _ h2 h4 h3 h5
theorem Tq (hs:b9 E st w) (hF:A7 st F) {E0:Env} (h0:E.Sub E0) {u v:V} {x:Value} (hc:OY ρ b F u v) (hr:Rel E0 u x):Rel (E0.QJ ρ b (nS E w F)) v x:=by
 rcases hc with hc|⟨cs,ds,rfl,rfl,hc⟩
 · exact Hw hs hF h0 hc hr
 · cases hr with
   |deep hd=>cases hd
   |bY _ xs hn hr=>
    obtain ⟨h1,h2⟩:=hc.spec
    refine .bY _ _ (by omega) fun j v x hj hx=>?_
    obtain ⟨u,hu,hc⟩:=h2 j v hj
    exact Hw hs hF h0 hc (hr j u x hu hx)
theorem Lm {z:Nat} (hs:b9 E st w) (hF:A7 st F) {E0:Env} (h0:E.Sub E0) {L:Loc} {cs ds:List V} (hc:yZ ρ b F cs ds) (h:gR z E0 w L cs):gR z (E0.QJ ρ b (nS E w F)) w L ds:=by
 obtain ⟨cells,t,fz,h1,h2,h3,h4,h5⟩:=h
 obtain ⟨c1,c2⟩:=hc.spec
 refine ⟨cells,t,fz,h1,h2,by omega,h4,fun j v hj=>?_⟩
 obtain ⟨u,hu,hc⟩:=c2 j v hj
 obtain ⟨x,hx,hr,ho⟩:=h5 j u hu
 exact ⟨x,hx,Ll hs hF h0 hc hr,ho⟩
theorem ce_holds (hs:b9 E st w) (hF:A7 st F) {E0:Env} (h0:E.Sub E0) {L:Loc} {o o':Obj} (hc:XJ ρ b F o o') (h:Holds E0 w L o):Holds (E0.QJ ρ b (nS E w F)) w L o':=by
 cases o<;>cases o'<;>simp only [XJ] at hc
 case cs.cs c d=>exact ⟨h.1,Lm hs hF h0 hc h.2⟩
 case arr.arr sz es dS ds=>
  obtain ⟨rfl,hc⟩:=hc
  exact ⟨hc.len h.1,Lm hs hF h0 hc.flat h.2⟩
 case spare.spare=>exact Lm hs hF h0 (cs:=[]) (ds:=[]) trivial h
 case mp.mp kd es H7 ds=>
  obtain ⟨rfl,hc⟩:=hc
  obtain ⟨bO,clock,h1,h2,h3,h4⟩:=h
  obtain ⟨c1,c2⟩:=hc.spec
  refine ⟨bO,clock,h1,by omega,fun j q e hq he=>?_,h4⟩
  obtain ⟨u,hu,e1,e2⟩:=c2 j q hq
  obtain ⟨a1,a2,a3⟩:=h3 j u e hu he
  rw [e1] at a1 a2
  exact ⟨a1.mono (fun b o x hx=>CH E w F b o x (by rw [<-h0.I];exact hx)),a2,Hw hs hF h0 e2 a3⟩
end
structure Ln (ρ:Ren) (F:Fz) (fr:Fr) (st:St) (bZ:Fr) (bU:St):Prop where
 fz:A7 st F
 inj:∀ k k',bU.live k->bU.live k'->ρ.key k=ρ.key k'->k=k'
 obj:∀ k o',bU.get k=some o'->bU.lim.has k/\F (ρ.key k)=none/\∃ o,st.get (ρ.key k)=some o/\XJ ρ (k.lim bU.lim) F o o'
 fr:∀ t,OY ρ bU.lim F (fr.get t) (bZ.get t)
theorem Ln.ok {ρ:Ren} {F:Fz} {fr:Fr} {st:St} {bZ:Fr} {bU:St} (h:Ln ρ F fr st bZ bU) {E:Env} {w:World} (hs:b9 E st w):
 b9 (E.QJ ρ bU.lim (nS E w F)) bU w/\∀ (t:Nat) (x:Value),Rel E (fr.get t) x->Rel (E.QJ ρ bU.lim (nS E w F)) (bZ.get t) x:=by
 have hl:∀ k,bU.live k->st.live (ρ.key k):=fun k ⟨o,ho⟩=>by obtain ⟨_,_,o',h1,_⟩:=h.obj k o ho;exact ⟨_,h1⟩
 refine ⟨⟨rfl,rfl,fun k ⟨o,ho⟩=>?_,fun b o x hx=>NR hs.jL hx,fun k o ho=>?_,fun k k' hk hZ dM=>?_,fun k hk j h1 h2=>?_⟩,fun t x hx=>Tq hs h.fz ⟨rfl,rfl⟩ (h.fr t) hx⟩
 · have:=(h.obj k o ho).1
   cases k<;>exact this
 · obtain ⟨_,_,o0,h2,h3⟩:=h.obj k o ho
   have h4:=hs.obj _ _ h2
   cases k with
   |g n=>exact ce_holds (E0:=E.cut) (b:=⟨bU.lim.g,0⟩) hs h.fz ⟨rfl,rfl⟩ h3 h4
   |l n=>exact ce_holds (E0:=E) hs h.fz ⟨rfl,rfl⟩ h3 h4
 · exact hs.sep _ _ (hl k hk) (hl k' hZ) fun e=>dM (h.inj k k' hk hZ e)
 · show nS E w F (E.μ (ρ.key k)).bL j=none
   have eE:=hl k hk
   obtain ⟨o,ho⟩:=hk
   obtain ⟨_,Iu,_⟩:=h.obj k o ho
   have Li:=hs.own _ eE j h1 h2
   unfold nS
   rw [Li]
   dsimp only
   rw [if_neg]
   rintro ⟨k1,sz,ds,e1,e2,_⟩
   obtain ⟨es,e3,_⟩:=h.fz k1 sz ds e1
   by_cases yY:k1=ρ.key k
   · subst yY;rw [Iu] at e1;cases e1
   · exact hs.sep _ _ ⟨_,e3⟩ eE yY e2
theorem Ln.Zl {ρ:Ren} {F:Fz} {fr:Fr} {st:St} {bZ:Fr} {bU:St} (h:Ln ρ F fr st bZ bU) {n:Nat} (hρ:∀ i,i<n->ρ.g i=i) (hn:n<=bU.g.next) {E0 E:Env} {st0:St} {w0 w:World} (z1:E0.ng=n) (z2:E0.nl=0) (he:Ext E0 st0 w0 E st w):Ext E0 st0 w0 (E.QJ ρ bU.lim (nS E w F)) bU w:=by
 have Lh:∀ k,E0.has k->ρ.key k=k:=fun k hk=>by
  cases k with
  |g i=>
   have hi:i<E0.ng:=hk
   show Key.g (ρ.g i)=.g i
   rw [hρ i (by omega)]
  |l i=>
   have hi:i<E0.nl:=hk
   omega
 refine ⟨⟨fun b o x hx=>CH E w F b o x (he.le.jL b o x hx),by rw [z1];exact hn,by rw [z2];exact Nat.zero_le _,fun k hk=>?_⟩,he.size,fun b o x hx=>?_,fun k ⟨o,ho⟩ hk=>?_,fun k ⟨o,ho⟩ _=>?_,he.same,he.os,he.out,he.tape⟩
 · show E.μ (ρ.key k)=E0.μ k
   rw [Lh k hk]
   exact he.le.loc k hk
 · rcases QI hx with h1|⟨k,sz,ds,h1,h2⟩
   · exact he.fF b o x h1
   · obtain ⟨es,h3,_⟩:=h.fz k sz ds h1
     by_cases hk:E0.has k
     · exact .inr (.inr ⟨k,he.gD k ⟨_,h3⟩ hk,by rw [<-he.le.loc k hk];exact h2⟩)
     · rcases he.gM k ⟨_,h3⟩ hk with h4|⟨k0,h4,h5⟩
       · exact .inr (.inl (h2▸h4))
       · exact .inr (.inr ⟨k0,h4,h5.trans h2⟩)
 · obtain ⟨_,_,o0,h1,_⟩:=h.obj k o ho
   rw [Lh k hk] at h1
   exact he.gD k ⟨_,h1⟩ hk
 · obtain ⟨_,_,o0,h1,_⟩:=h.obj k o ho
   by_cases hk:E0.has (ρ.key k)
   · exact .inr ⟨_,he.gD _ ⟨_,h1⟩ hk,by rw [<-he.le.loc _ hk];rfl⟩
   · exact he.gM (ρ.key k) ⟨_,h1⟩ hk
def Pure (P:Program) (f:Nat) (args:List V) (Q:V->Prop):Prop:=
 aB P f args gZ fun v h'=>∃ ρ F u,Ln ρ F [(0,v)] (dG h') [(0,u)] (dG gZ)/\u.free=true/\Q u
theorem Pure.use {P:Program} {f:Nat} {args:List V} {Q:V->Prop} (h0:Pure P f args Q) (ha:args.all V.free=true) {h:aA} {K:V->aA->Prop} (hK:∀ u,u.free=true->Q u->K u h):aB P f args h K:=by
 refine ⟨h0.1,fun E w vs rX hs hv=>?_⟩
 simp only [List.all_eq_true] at ha
 let E0:Env:={ I:=E.I,μ:=E.μ,ng:=0,nl:=0 }
 have OX:b9 E0 (dG gZ) w:=⟨rfl,rfl,fun k hk=>absurd hk cB,hs.jL,fun k o hk=>absurd ⟨o,hk⟩ cB,fun k k' hk=>absurd hk cB,fun k hk=>absurd hk cB⟩
 have Mv:eI E0 args vs:=⟨hv.1,fun j v x hj hx=>uG (E:=E) (F:=E0) (fun b o x h=>h) (ha v (List.mem_of_getElem? hj)) (hv.2 j v x hj hx)⟩
 refine (h0.2 E0 w vs rfl OX Mv).mono ?_
 rintro e w' ⟨v,x,h',E1,⟨ρ,F,u,ht,Mw,hq⟩,rfl,hn,xJ,Sn,H4⟩
 obtain ⟨yX,Cu⟩:=ht.ok xJ
 have hr:=Cu 0 x H4
 have he:=ht.Zl (n:=0) (fun i hi=>absurd hi (Nat.not_lt_zero _)) (Nat.zero_le _) rfl rfl Sn
 generalize E1.QJ ρ (dG gZ).lim (nS E1 w' F)=E' at yX hr he
 have hr:Rel E' u x:=hr
 have C1:tC E.I E'.I:=he.le.jL
 have j6:∀ k,(dG h).live k->w'.heap[(E.μ k).bL]? =w.heap[(E.μ k).bL]? :=fun k hk=>he.same _ (hs.lt hk) fun k0 Lh=>absurd Lh cB
 have hle:E.Le { E with I:=E'.I }:=⟨C1,Nat.le_refl _,Nat.le_refl _,fun _ _=>rfl⟩
 refine ⟨u,x,h,{ E with I:=E'.I },hK u Mw hq,rfl,rX,⟨hs.ng,hs.nl,fun k hk=>hs.jM k hk,yX.jL,fun k o hk=>?_,fun k k' hk hZ dM=>hs.sep k k' hk hZ dM,fun k hk j h1 h2=>?_⟩,
  ⟨hle,he.size,fun b o x hx=>?_,fun k hk _=>hk,fun k hk hn=>absurd (hs.jM k hk) hn,fun b hb _=>he.same b hb fun k hk=>absurd hk cB,he.os,he.out,he.tape⟩,uG (E:=E') (F:={ E with I:=E'.I }) (fun b o x h=>h) Mw hr⟩
 · exact (hs.obj k o hk).eK (Env.iJ hle k) (j6 k ⟨o,hk⟩)
 · show E'.I (E.μ k).bL j=none
   cases hx:E'.I (E.μ k).bL j with
   |none=>rfl
   |some y=>
    rcases he.fF _ _ _ hx with h3|h3|⟨k0,h3,_⟩
    · have:=hs.own k hk j h1 h2
      rw [show E0.I=E.I from rfl,this] at h3
      cases h3
    · have:=hs.lt hk
      omega
    · exact absurd h3 cB
 · rcases he.fF b o x hx with h1|h1|⟨k0,h1,_⟩
   · exact .inl h1
   · exact .inr (.inl h1)
   · exact absurd h1 cB
open Go
def yK (n:Nat) (fr:Fr) (st:St) (bZ:Fr) (bU:St):Prop:=(bZ=fr/\bU=st)\/∃ ρ F,Ln ρ F fr st bZ bU/\(∀ i,i<n->ρ.g i=i)/\n<=bU.g.next
abbrev Jg (fr:Fr) (st:St) (bZ:Fr) (bU:St):Prop:=yK 0 fr st bZ bU
theorem yK.ok {n:Nat} {fr bZ:Fr} {st bU:St} (h:yK n fr st bZ bU) {E0 E:Env} {st0:St} {w0 w:World} (z1:E0.ng=n) (z2:E0.nl=0) (hs:b9 E st w) (he:Ext E0 st0 w0 E st w):
 ∃ E',b9 E' bU w/\Ext E0 st0 w0 E' bU w/\∀ (t:Nat) (x:Value),Rel E (fr.get t) x->Rel E' (bZ.get t) x:=by
 rcases h with ⟨rfl,rfl⟩|⟨ρ,F,h,h1,h2⟩
 · exact ⟨E,hs,he,fun _ _ h=>h⟩
 · exact ⟨_,(h.ok hs).1,h.Zl h1 h2 z1 z2 he,(h.ok hs).2⟩
def NS (n:Nat) (A:bS):AC->(Ex->Fr->St->Prop)->Fr->St->Prop
 |.skip,Q,fr,st=>Q .normal fr st
 |.AK ops,Q,fr,st=>(dU ops fr st).wp A (iE Q)
 |.tD ds kill,Q,fr,st=>((oJ [] ds fr st).bind (tF kill)).wp A (iE Q)
 |.seq a b,Q,fr,st=>NS n A a (o9 (NS n A b Q) Q) fr st
 |.cond c a b,Q,fr,st=>match c.ev fr with
  |.b x=>X9 x (NS n A a Q fr st) (NS n A b Q fr st)
  |_=>False
 |.bL id b,Q,fr,st=>NS n A b (jO id Q) fr st
 |.loop b,Q,fr,st=>∀ R:Fr->St->Prop,(∀ fr st bZ bU,yK n fr st bZ bU->NS n A b (o9 R Q) bZ bU->R fr st)->R fr st
 |.exit id,Q,fr,st=>Q (.exit id) fr st
 |.ret,Q,fr,st=>Q .ret fr st
 |.no,_,_,_=>False
section
variable {P:Program} {n N:Nat} {E0:Env} {st0:St} {w0:World}
theorem pF (z1:E0.ng=n) (z2:E0.nl=0):∀ (A:AC) (c:Code),wQ P N c A=true->∀ (Q:Ex->Fr->St->Prop) {fr:Fr} {st:St} {E:Env} {w:World} {a:Act},
 b9 E st w->Ext E0 st0 w0 E st w->aY E N fr a->a.defers=[]->NS n (aB P) A Q fr st->c.wp P (pS N E0 st0 w0 Q) a w
 |.skip,c,hk,Q,fr,st,E,w,a,hs,he,hf,hd,hw=>by
  cases c<;>simp [wQ] at hk
  · exact wp_skip ⟨fr,st,E,hw,hs,he,hf,hd⟩
  · exact wp_label ⟨fr,st,E,hw,hs,he,hf,hd⟩
 |.AK aoP,c,hk,Q,fr,st,E,w,a,hs,he,hf,hd,hw=>by
  cases c<;>simp [wQ] at hk
  rename_i id ops draw
  obtain ⟨rfl,hk⟩:=hk
  refine wp_region ?_
  have:=ops_ok (K:=iE Q) (Q:=pS N E0 st0 w0 Q) aoP ops.toList 0 hk (fun k o h=>by simpa using h) hs hf hw (fun bZ bU E' a' w' h1 h2 h3 h4 h5=>⟨bZ,bU,E',h1,h2,he.trans h3,h4,h5.trans hd⟩)
  rw [List.range_eq_range']
  simpa using this
 |.tD ds kill,c,hk,Q,fr,st,E,w,a,hs,he,hf,hd,hw=>by
  cases c<;>simp [wQ] at hk
  rename_i id ops draw
  obtain ⟨rfl,hk⟩:=hk
  simp only [NS] at hw
  rw [T.wp_bind] at hw
  refine draw_ok hk hs hf hw fun bZ bU E' a' w' h1 h2 h3 h4 h5=>?_
  simp only [tF] at h1
  rw [Fr.cN] at h1
  refine ⟨bZ.nF kill,bU,E',h1,h2,he.trans h3,⟨h4.size,fun t=>?_⟩,h5.trans hd⟩
  rw [Fr.gN]
  split
  · exact .fK _
  · exact h4.rel t
 |.seq A B,c,hk,Q,fr,st,E,w,a,hs,he,hf,hd,hw=>by
  cases c<;>simp [wQ] at hk
  rename_i x y
  refine wp_seq ?_
  refine wp_mono (pF z1 z2 A x hk.1 _ hs he hf hd hw) ?_
  intro e a' w' h
  cases e with
  |normal=>
   obtain ⟨bZ,bU,E',h1,h2,h3,h4,h5⟩:=h
   exact pF z1 z2 B y hk.2 Q h2 h3 h4 h5 h1
  |exit id=>exact h
  |ret=>exact h
  |goto l=>exact h
  |panic ch=>exact h
  |outgrown=>exact h
 |.cond d A B,c,hk,Q,fr,st,E,w,a,hs,he,hf,hd,hw=>by
  cases c<;>simp [wQ] at hk
  rename_i x y z
  have r1:=bA hk.1.1 hf
  simp only [NS] at hw
  split at hw
  · rename_i b hb
    rw [hb] at r1
    exact wp_cond_split r1.bool (fun hb=>pF z1 z2 A y hk.1.2 Q hs he hf hd (hw.1 hb)) (fun hb=>pF z1 z2 B z hk.2 Q hs he hf hd (hw.2 hb))
  · exact hw.elim
 |.bL id B,c,hk,Q,fr,st,E,w,a,hs,he,hf,hd,hw=>by
  cases c<;>simp [wQ] at hk
  rename_i AN x
  obtain ⟨rfl,hk⟩:=hk
  refine wp_block (wp_mono (pF z1 z2 B x hk _ hs he hf hd hw) ?_)
  intro e a' w' h
  cases e with
  |normal=>exact h
  |exit id=>
   obtain ⟨bZ,bU,E',h1,h2⟩:=h
   simp only [jO] at h1
   simp only [Exit.inBlock]
   split
   · rename_i Dz;rw [if_pos Dz] at h1;exact ⟨bZ,bU,E',h1,h2⟩
   · rename_i Dz;rw [if_neg Dz] at h1;exact ⟨bZ,bU,E',h1,h2⟩
  |ret=>exact h
  |goto l=>exact h
  |panic ch=>exact h
  |outgrown=>exact h
 |.loop B,c,hk,Q,fr,st,E,w,a,hs,he,hf,hd,hw=>by
  cases c<;>simp [wQ] at hk
  rename_i x
  have key:=hw (fun fr st=>∀ (E:Env) (w:World) (a:Act),b9 E st w->Ext E0 st0 w0 E st w->aY E N fr a->a.defers=[]->iF P x (pS N E0 st0 w0 Q) a w) (by
   intro bZ bU rB akE NT h' E' w' a' s1 s2 s3 s4
   obtain ⟨E1,c1,c0,c2⟩:=NT.ok z1 z2 s1 s2
   refine iF.round (pF z1 z2 B x hk _ c1 c0 ⟨s3.size,fun t=>c2 t _ (s3.rel t)⟩ s4 h') ?_
   rintro a2 w2 ⟨UD,st2,E2,h1,h2,h3,h4,h5⟩
   exact h1 E2 w2 a2 h2 h3 h4 h5)
  exact (key E w a hs he hf hd).loop
 |.exit id,c,hk,Q,fr,st,E,w,a,hs,he,hf,hd,hw=>by
  cases c<;>simp [wQ] at hk
  subst hk
  exact wp_exit ⟨fr,st,E,hw,hs,he,hf,hd⟩
 |.ret,c,hk,Q,fr,st,E,w,a,hs,he,hf,hd,hw=>by
  cases c<;>simp [wQ] at hk
  exact wp_ret ⟨fr,st,E,hw,hs,he,hf,hd⟩
 |.no,c,hk,Q,fr,st,E,w,a,hs,he,hf,hd,hw=>hw.elim
end
section
variable {P:Program}
theorem QK {f:Nat} {F:aW} (hk:gE P f F=true) {args:List V} (hn:args.length=F.nparams) {h0:aA} {K:V->aA->Prop}
 (hw:NS h0.next (aB P) F.body (wR F.results K) (bT 0 args) (dG h0)):aB P f args h0 K:=by
 unfold gE at hk
 split at hk
 case h_2=>cases hk
 rename_i fn FL
 split at hk
 case h_2=>cases hk
 rename_i c hb
 simp only [Bool.and_eq_true,decide_eq_true_eq] at hk
 obtain ⟨⟨⟨k1,k2⟩,k3⟩,k4⟩:=hk
 refine ⟨k1,fun E w vs rX hs hv=>?_⟩
 refine calls_of_wp FL hb ?_
 have H3:=hv.1
 have Tb:aY E fn.ntmps (bT 0 args) { tmps:=vs++Array.replicate (fn.ntmps - vs.size) undef,defers:=[] }:=by
  refine ⟨by simp;omega,fun t=>?_⟩
  rw [pA,if_pos (Nat.zero_le _),Nat.sub_zero]
  by_cases ht:t<args.length
  · have h1:args[t]? =some args[t]:=by simp [ht]
    obtain ⟨x,hx,hr⟩:=hv.get h1
    have:(vs++Array.replicate (fn.ntmps - vs.size) undef).getD t undef=x:=by
     rw [Array.getD_eq_getD_getElem?,Array.getElem?_append_left (by omega),hx];rfl
    rw [this]
    simp only [List.getD_eq_getElem?_getD,h1,Option.getD_some]
    exact hr
  · simp only [List.getD_eq_getElem?_getD,List.getElem?_eq_none (Nat.le_of_not_lt ht),Option.getD_none]
    exact .fK _
 refine wp_mono (pF (E0:=E) (st0:=dG h0) (w0:=w) hs.ng.symm rX F.body c k2 _ hs (.refl _ _ _) Tb rfl hw) ?_
 have fin:∀ (a:Act) (w':World),Ha fn.ntmps E (dG h0) w (fun fr st=>match eX fr st F.results with|some v=>K v st.g|none=>False) a w'->
  a.defers=[]/\∃ v,(results fn a.tmps).run P w'=.ok v w'/\∃ v' x h' E',K v' h'/\Ending.returned v=.returned x/\E'.nl=0/\b9 E' (dG h') w'/\Ext E (dG h0) w E' (dG h') w'/\Rel E' v' x:=by
  rintro a w' ⟨fr,st,E',hr,s1,s2,s3,s4⟩
  refine ⟨s4,?_⟩
  have KY:Ext E (dG h0) w E'.cut (dG st.g) w':=by
   have hl:∀ k,(dG st.g).live k->st.live k:=by
    intro k hk
    obtain ⟨n,rfl,o,ho⟩:=mT hk
    exact ⟨o,ho⟩
   refine ⟨⟨s2.le.jL,s2.le.ng,by rw [rX];exact Nat.zero_le _,s2.le.loc⟩,s2.size,s2.fF,fun k hk he=>s2.gD k (hl k hk) he,fun k hk he=>s2.gM k (hl k hk) he,s2.same,s2.os,s2.out,s2.tape⟩
  unfold eX at hr
  cases wN:nQ fr st F.results with
  |none=>rw [wN] at hr;exact hr.elim
  |some us=>
   obtain ⟨xs,Kh,Ch⟩:=DA (P:=P) s3 s1 fn.results.toList F.results us k3 wN
   have hm:(fn.results.mapM (fun
    |.tmp t=>pure (a.tmps.getD t undef)
    |.cell x t=>do loadVar t (<-asAddr (a.tmps.getD x undef)):ResultVar->Sem Value)).run P w'=.ok xs.toArray w':=by
    have e:fn.results=fn.results.toList.toArray:=by simp
    rw [e,List.mapM_toArray,map_eq_pure_bind]
    simp only [Sem.run_bind]
    erw [Kh]
    simp only [Result.andThen_ok,Sem.run_pure]
   have hlen:=Ch.1
   rw [wN] at hr
   match us,xs,hlen,Ch,hr,hm with
   |[v],[x],_,Ch,hr,hm=>
    refine ⟨x,?_,v,x,st.g,E'.cut,hr,rfl,rfl,s1.cut,KY,Ch.2 0 v x rfl (by simp)⟩
    simp only [results,Sem.run_bind]
    exact fA hm (by simp)
   |[],[],_,Ch,hr,hm=>
    refine ⟨.tuple #[],?_,.bY [],.tuple #[],st.g,E'.cut,hr,rfl,rfl,s1.cut,KY,fJ⟩
    simp only [results,Sem.run_bind]
    exact fA hm (by simp)
   |v1::v2::vr,x1::x2::xr,_,Ch,hr,hm=>
    refine ⟨.tuple (x1::x2::xr).toArray,?_,.bY (v1::v2::vr),_,st.g,E'.cut,hr,rfl,rfl,s1.cut,KY,.bY _ _ Ch.1 Ch.2⟩
    simp only [results,Sem.run_bind]
    exact fA hm (by simp)
 intro e a w' hq
 cases e with
 |normal=>exact fin a w' hq
 |ret=>exact fin a w' hq
 |exit id=>obtain ⟨fr,st,E',h1,_⟩:=hq;exact h1.elim
 |goto l=>exact hq.elim
 |panic ch=>exact hq.elim
 |outgrown=>exact hq.elim
theorem Wf {f:Nat} {F:aW} (hk:gE P f F=true) {args:List V} (hn:args.length=F.nparams) {K:V->aA->Prop}
 (hw:NS 0 (aB P) F.body (wR F.results K) (bT 0 args) (dG gZ)):aB P f args gZ K:=QK hk hn hw
end
end Go.Eng
