/-
Regions whose order is drawn: the check comes to what the law asks, and the law of the whole region.
-/
import Derived.Test.YtmfelikepmmjkaaGreatX08
set_option linter.unusedVariables false
set_option linter.unusedSimpArgs false
set_option maxRecDepth 100000
namespace Go.Eng
open Go
section
variable {P:Program} {ops:Array Oper} {N:Nat} {K:Fr×St->Prop} {Q:Exit->Act->World->Prop}
theorem EB {d:bH} (h:RD P N ops d=true):∃ o,RI P N ops d o:=by
 unfold RD at h
 split at h
 case h_2=>cases h
 rename_i o ho
 simp only [Bool.and_eq_true,decide_eq_true_eq,Bool.or_eq_true] at h
 obtain ⟨⟨⟨⟨⟨h1,h2⟩,h3⟩,h4⟩,h5⟩,h6⟩:=h
 refine ⟨o,ho,h1,h2,fun n hn=>?_,h4,fun hl=>?_,fun n hn hm=>?_⟩
 · rw [hn] at h3;simpa [JV] using h3
 · rcases h5 with h5|h5
   · rw [hl] at h5;cases h5
   · exact h5
 · rw [hn] at h6
   simp only [Bool.not_eq_true'] at h6
   rw [dC.2 hm] at h6;cases h6
theorem tZ:∀ (n:Nat) {l:List Nat},l.Nodup->(∀ i∈l,i<n)->l.length<=n
 |0,l,_,hb=>by
  cases l with
  |nil=>simp
  |cons x r=>have:=hb x (.head _);omega
 |n+1,l,hn,hb=>by
  by_cases hm:n∈l
  · have hlen:=List.length_erase_of_mem hm
    have:=tZ n (l:=l.erase n) (hn.erase n) (fun j hj=>by
     have h1:=(hn.mem_erase_iff.1 hj)
     have h2:=hb j h1.2
     omega)
    omega
  · have:=tZ n (l:=l) hn (fun j hj=>by
     have h1:=hb j hj
     have h2:j≠n:=fun e=>hm (e▸hj)
     omega)
    omega
theorem zK:∀ (n:Nat) {l:List Nat},l.Nodup->(∀ i∈l,i<n)->l.length=n->∀ i,i<n->i∈l
 |0,l,_,_,_,i,hi=>by omega
 |n+1,l,hn,hb,hl,i,hi=>by
  have Gm:n∈l:=by
   refine Classical.byContradiction fun pH=>?_
   have:l.length<=n:=by
    refine tZ n hn fun j hj=>?_
    have h1:=hb j hj
    have h2:j≠n:=fun e=>pH (e▸hj)
    omega
   omega
  by_cases cY:i=n
  · subst cY;exact Gm
  have hlen:=List.length_erase_of_mem Gm
  have:=zK n (l:=l.erase n) (hn.erase n) (fun j hj=>by
   have h1:=(hn.mem_erase_iff.1 hj)
   have h2:=hb j h1.2
   omega) (by omega) i (by omega)
  exact List.mem_of_mem_erase this
theorem J5 {ds:List bH} (h:Ew P N ops ds=true):Ii P N ops ds:=by
 unfold Ew at h
 simp only [Bool.and_eq_true,decide_eq_true_eq,List.all_eq_true] at h
 obtain ⟨⟨⟨⟨h1,h2⟩,h3⟩,h4⟩,h5⟩:=h
 obtain ⟨e1,e2,_⟩:=AY h5
 refine ⟨h1,fun d hd=>EB (h3 d hd),AX (allAncs_ok ops _) h4,fun pre d suf kR o ho e he hb=>?_,e2,fun i hi=>?_⟩
 · rcases e1 pre d suf kR o ho e he hb with hm|h
   · cases hm
   · exact h
 · have:=zK ops.size (l:=ds.map (·.ix)) e2 (fun j hj=>by
    obtain ⟨d,hd,rfl⟩:=List.mem_map.1 hj
    obtain ⟨o,ho⟩:=EB (h3 d hd)
    exact (Array.getElem?_eq_some_iff.1 ho.at_).1) (by simpa using h2) i hi
   obtain ⟨d,hd,hdi⟩:=List.mem_map.1 this
   exact ⟨d,hd,hdi⟩
theorem EC (listed:Array Bool):∀ l:List bH,iI listed l<=l.length
 |[]=>Nat.le_refl _
 |d::r=>by
  have:=EC listed r
  simp only [iI,List.length_cons]
  split<;>omega
theorem draw_ok {ds:List bH} (hk:Ew P N ops ds=true) {id:Nat} {E:Env} {st:St} {w:World} {fr:Fr} {a:Act} (hs:cH E st w) (hf:bB E N fr a)
 (hw:(pX [] ds fr st).wp (aC P) K)
 (hQ:∀ cF cB E' a' w',K (cF,cB)->cH E' cB w'->Ext E st w E' cB w'->bB E' N cF a'->a'.defers=a.defers->Q .normal a' w'):
 (Code.region id ops true).wp P Q a w:=by
 have hd:=J5 hk
 refine wp_region_any hd.md ?_
 have hlen:ds.length=ops.size:=by
  unfold Ew at hk
  simp only [Bool.and_eq_true,decide_eq_true_eq] at hk
  exact hk.1.1.1.2
 have RH:∀ d∈ds,Un (Array.replicate ops.size false) d:=fun d Gk=>by
  obtain ⟨o,ho⟩:=hd.one d Gk
  have cO:=(Array.getElem?_eq_some_iff.1 ho.at_).1
  simp [Un,Array.getD_eq_getD_getElem?,cO]
 have uX:(Array.replicate ops.size false).size=ops.size:=by simp
 refine RU (K:=K) hd (E0:=E) (st0:=st) (w0:=w) (a0:=a) (fun cF cB E' a' w' h1 h2 h3 h4 h5=>hQ cF cB E' a' w' h1 h2 h3 h4 h5)
  ops.size (pre:=[]) (suf:=ds) (E:=E) (st:=st) (fr:=fr) (by simp) ?_ (Ext.drawn (w.drawn+1)) rfl uX ?_ ?_
 · refine ⟨hs.of_heap (w:=w) (w':={ w with drawn:=w.drawn+1 }) rfl,hf.size,fun t _ _=>hf.rel t,⟨fun _=>0,fun d hd hu=>absurd (RH d hd) hu,fun d hd _ _ hu=>absurd (RH d hd) hu⟩,fun d hd=>(by cases hd),[],fun x h=>h,fun x h=>h,hw⟩
 · intro i o hi ho
   have cO:=(Array.getElem?_eq_some_iff.1 ho).1
   simp [Array.getD_eq_getD_getElem?,cO] at hi
 · rw [<-hlen];exact EC _ _
end
open Go
def qG (K:Fr->St->Prop) (Q:Ex->Fr->St->Prop):Ex->Fr->St->Prop
 |.normal,fr,st=>K fr st
 |.exit id,fr,st=>Q (.exit id) fr st
 |.ret,fr,st=>Q .ret fr st
def j9 (id:Nat) (Q:Ex->Fr->St->Prop):Ex->Fr->St->Prop
 |.exit BG,fr,st=>if BG=id then Q .normal fr st else Q (.exit BG) fr st
 |.normal,fr,st=>Q .normal fr st
 |.ret,fr,st=>Q .ret fr st
def iY (Q:Ex->Fr->St->Prop):Fr×St->Prop
 |(fr,st)=>Q .normal fr st
def vB (kill:List Nat):Fr×St->T (Fr×St)
 |(fr,st)=>fr.cut kill fun fr=>.ret (fr,st)
def Fr.le (f g:Fr):Prop:=∀ t,f.get t=g.get t\/f.get t=.gD
theorem Fr.le_refl (f:Fr):Fr.le f f:=fun _=>.inl rfl
theorem Fr.le_nil {g:Fr}:Fr.le [] g:=fun _=>.inr rfl
theorem Fr.U3 {n:Nat} {v:V} {r g:Fr} (h:g.get n=v) (hr:Fr.le r g):Fr.le ((n,v)::r) g:=by
 intro t
 simp only [Fr.get]
 split
 · rename_i hn;subst hn;exact .inl h.symm
 · exact hr t
theorem bB.le {E:Env} {N:Nat} {f g:Fr} {a:Act} (h:bB E N g a) (hl:Fr.le f g):bB E N f a:=by
 refine ⟨h.size,fun t=>?_⟩
 rcases hl t with h1|h1
 · rw [h1];exact h.rel t
 · rw [h1];exact .gD _
def Ip (A:b7):AC->(Ex->Fr->St->Prop)->Fr->St->Prop
 |.skip,Q,fr,st=>Q .normal fr st
 |.BE ops,Q,fr,st=>(eF ops fr st).wp A (iY Q)
 |.u0 ds kill,Q,fr,st=>((pX [] ds fr st).bind (vB kill)).wp A (iY Q)
 |.seq a b,Q,fr,st=>Ip A a (qG (Ip A b Q) Q) fr st
 |.cond c a b,Q,fr,st=>match c.ev fr with
  |.b x=>wIf x (Ip A a Q fr st) (Ip A b Q fr st)
  |_=>False
 |.bS id b,Q,fr,st=>Ip A b (j9 id Q) fr st
 |.loop b,Q,fr,st=>∀ R:Fr->St->Prop,(∀ fr cF st,Fr.le cF fr->Ip A b (qG R Q) cF st->R fr st)->R fr st
 |.exit id,Q,fr,st=>Q (.exit id) fr st
 |.ret,Q,fr,st=>Q .ret fr st
 |.no,_,_,_=>False
def yV (P:Program) (N:Nat):Code->AC->Bool
 |.skip,.skip=>true
 |.label _,.skip=>true
 |.region _ ops draw,.BE asV=>!draw&&zF P N ops ops.toList asV
 |.region _ ops draw,.u0 ds _=>draw&&Ew P N ops ds
 |.seq a b,.seq A B=>yV P N a A&&yV P N b B
 |.cond c a b,.cond d A B=>eL c d&&yV P N a A&&yV P N b B
 |.block id b,.bS BG B=>decide (id=BG)&&yV P N b B
 |.loop b,.loop B=>yV P N b B
 |.exit id,.exit BG=>decide (id=BG)
 |.ret,.ret=>true
 |_,.no=>true
 |_,_=>false
section
variable {P:Program} {N:Nat} {E0:Env} {st0:St} {w0:World}
structure Iq (N:Nat) (E0:Env) (st0:St) (w0:World) (K:Fr->St->Prop) (a:Act) (w:World):Prop where
 ex:∃ fr st E,K fr st/\cH E st w/\Ext E0 st0 w0 E st w/\bB E N fr a/\a.defers=[]
def rC (N:Nat) (E0:Env) (st0:St) (w0:World) (Q:Ex->Fr->St->Prop):Exit->Act->World->Prop
 |.normal,a,w=>Iq N E0 st0 w0 (Q .normal) a w
 |.exit id,a,w=>Iq N E0 st0 w0 (Q (.exit id)) a w
 |.ret,a,w=>Iq N E0 st0 w0 (Q .ret) a w
 |_,_,_=>False
def iZ (P:Program) (c:Code) (Qm:Exit->Act->World->Prop) (a:Act) (w:World):Prop:=
 ∀ (b:Frame) (k:List Item) (cs:List Frame),∃ e a' w',Qm e a' w'/\Arrives P (lone (b.at a (.code c::.inLoop c::k)) cs w) b k cs e a' w'
theorem iZ.loop {c:Code} {Qm:Exit->Act->World->Prop} {a:Act} {w:World} (h:iZ P c Qm a w):(Code.loop c).wp P Qm a w:=
 fun b k cs=>let ⟨e,a',w',hq,Ir⟩:=h b k cs;⟨e,a',w',hq,.of_steps (.one step_loop) Ir⟩
theorem iZ.round {c:Code} {Q:Ex->Fr->St->Prop} {R:Fr->St->Prop} {a:Act} {w:World} (h:c.wp P (rC N E0 st0 w0 (qG R Q)) a w)
 (hR:∀ a w,Iq N E0 st0 w0 R a w->iZ P c (rC N E0 st0 w0 Q) a w):iZ P c (rC N E0 st0 w0 Q) a w:=by
 intro b k cs
 obtain ⟨e,a₁,w₁,hq,Ir⟩:=h b (.inLoop c::k) cs
 cases e with
 |normal=>
  obtain ⟨e₂,a₂,w₂,hq₂,RW⟩:=hR a₁ w₁ hq b k cs
  exact ⟨e₂,a₂,w₂,hq₂,.of_steps (Steps.trans Ir (.one step_inLoop)) RW⟩
 |exit id=>exact ⟨.exit id,a₁,w₁,hq,.pass (x:=.inLoop c) rfl (fun _ _=>.inl (by simp)) Ir⟩
 |ret=>exact ⟨.ret,a₁,w₁,hq,.pass (x:=.inLoop c) rfl (fun _ _=>.inl (by simp)) Ir⟩
 |goto l=>exact hq.elim
 |panic ch=>exact hq.elim
 |outgrown=>exact hq.elim
theorem code_ok:∀ (A:AC) (c:Code),yV P N c A=true->∀ (Q:Ex->Fr->St->Prop) {fr:Fr} {st:St} {E:Env} {w:World} {a:Act},
 cH E st w->Ext E0 st0 w0 E st w->bB E N fr a->a.defers=[]->Ip (aC P) A Q fr st->c.wp P (rC N E0 st0 w0 Q) a w
 |.skip,c,hk,Q,fr,st,E,w,a,hs,he,hf,hd,hw=>by
  cases c<;>simp [yV] at hk
  · exact wp_skip ⟨fr,st,E,hw,hs,he,hf,hd⟩
  · exact wp_label ⟨fr,st,E,hw,hs,he,hf,hd⟩
 |.BE asV,c,hk,Q,fr,st,E,w,a,hs,he,hf,hd,hw=>by
  cases c<;>simp [yV] at hk
  rename_i id ops draw
  obtain ⟨rfl,hk⟩:=hk
  refine wp_region ?_
  have:=ops_ok (K:=iY Q) (Q:=rC N E0 st0 w0 Q) asV ops.toList 0 hk (fun k o h=>by simpa using h) hs hf hw (fun cF cB E' a' w' h1 h2 h3 h4 h5=>⟨cF,cB,E',h1,h2,he.trans h3,h4,h5.trans hd⟩)
  rw [List.range_eq_range']
  simpa using this
 |.u0 ds kill,c,hk,Q,fr,st,E,w,a,hs,he,hf,hd,hw=>by
  cases c<;>simp [yV] at hk
  rename_i id ops draw
  obtain ⟨rfl,hk⟩:=hk
  simp only [Ip] at hw
  rw [T.wp_bind] at hw
  refine draw_ok hk hs hf hw fun cF cB E' a' w' h1 h2 h3 h4 h5=>?_
  simp only [vB] at h1
  rw [Fr.cU] at h1
  refine ⟨cF.oY kill,cB,E',h1,h2,he.trans h3,⟨h4.size,fun t=>?_⟩,h5.trans hd⟩
  rw [Fr.iC]
  split
  · exact .gD _
  · exact h4.rel t
 |.seq A B,c,hk,Q,fr,st,E,w,a,hs,he,hf,hd,hw=>by
  cases c<;>simp [yV] at hk
  rename_i x y
  refine wp_seq ?_
  refine wp_mono (code_ok A x hk.1 _ hs he hf hd hw) ?_
  intro e a' w' h
  cases e with
  |normal=>
   obtain ⟨cF,cB,E',h1,h2,h3,h4,h5⟩:=h
   exact code_ok B y hk.2 Q h2 h3 h4 h5 h1
  |exit id=>exact h
  |ret=>exact h
  |goto l=>exact h
  |panic ch=>exact h
  |outgrown=>exact h
 |.cond d A B,c,hk,Q,fr,st,E,w,a,hs,he,hf,hd,hw=>by
  cases c<;>simp [yV] at hk
  rename_i x y z
  have r1:=bG hk.1.1 hf
  simp only [Ip] at hw
  split at hw
  · rename_i b hb
    rw [hb] at r1
    exact wp_cond_split r1.bool (fun hb=>code_ok A y hk.1.2 Q hs he hf hd (hw.1 hb)) (fun hb=>code_ok B z hk.2 Q hs he hf hd (hw.2 hb))
  · exact hw.elim
 |.bS id B,c,hk,Q,fr,st,E,w,a,hs,he,hf,hd,hw=>by
  cases c<;>simp [yV] at hk
  rename_i BG x
  obtain ⟨rfl,hk⟩:=hk
  refine wp_block (wp_mono (code_ok B x hk _ hs he hf hd hw) ?_)
  intro e a' w' h
  cases e with
  |normal=>exact h
  |exit id=>
   obtain ⟨cF,cB,E',h1,h2⟩:=h
   simp only [j9] at h1
   simp only [Exit.inBlock]
   split
   · rename_i ED;rw [if_pos ED] at h1;exact ⟨cF,cB,E',h1,h2⟩
   · rename_i ED;rw [if_neg ED] at h1;exact ⟨cF,cB,E',h1,h2⟩
  |ret=>exact h
  |goto l=>exact h
  |panic ch=>exact h
  |outgrown=>exact h
 |.loop B,c,hk,Q,fr,st,E,w,a,hs,he,hf,hd,hw=>by
  cases c<;>simp [yV] at hk
  rename_i x
  have key:=hw (fun fr st=>∀ (E:Env) (w:World) (a:Act),cH E st w->Ext E0 st0 w0 E st w->bB E N fr a->a.defers=[]->iZ P x (rC N E0 st0 w0 Q) a w) (by
   intro cF sZ cB hle h' E' w' a' s1 s2 s3 s4
   refine iZ.round (code_ok B x hk _ s1 s2 (s3.le hle) s4 h') ?_
   rintro a2 w2 ⟨Wr,st2,E2,h1,h2,h3,h4,h5⟩
   exact h1 E2 w2 a2 h2 h3 h4 h5)
  exact (key E w a hs he hf hd).loop
 |.exit id,c,hk,Q,fr,st,E,w,a,hs,he,hf,hd,hw=>by
  cases c<;>simp [yV] at hk
  subst hk
  exact wp_exit ⟨fr,st,E,hw,hs,he,hf,hd⟩
 |.ret,c,hk,Q,fr,st,E,w,a,hs,he,hf,hd,hw=>by
  cases c<;>simp [yV] at hk
  exact wp_ret ⟨fr,st,E,hw,hs,he,hf,hd⟩
 |.no,c,hk,Q,fr,st,E,w,a,hs,he,hf,hd,hw=>hw.elim
end
def rM (P:Program):List ResultVar->List RV->Bool
 |[],[]=>true
 |.tmp t::r,.t n::q=>decide (t=n)&&rM P r q
 |.cell x t::r,.cell n sz::q=>decide (x=n)&&vP P t sz&&rM P r q
 |_,_=>false
def gU (P:Program) (f:Nat) (F:aZ):Bool:=
 match P.funcs[f]? with
 |some fn=>match fn.body with
  |some c=>sE P f&&yV P fn.ntmps c F.body&&rM P fn.results.toList F.results&&decide (F.nparams<=fn.ntmps)
  |none=>false
 |none=>false
def wC (rs:List RV) (K:V->aA->Prop):Ex->Fr->St->Prop
 |.exit _,_,_=>False
 |.normal,fr,st=>match eX fr st rs with
  |some v=>K v st.g
  |none=>False
 |.ret,fr,st=>match eX fr st rs with
  |some v=>K v st.g
  |none=>False
section
variable {P:Program}
theorem qH:∀ (args:List V) (n t:Nat),(b9 n args).get t=if n<=t then args.getD (t - n) .gD else .gD
 |[],n,t=>by simp [b9,Fr.get]
 |v::r,n,t=>by
  simp only [b9,Fr.get]
  by_cases h:n=t
  · subst h;simp
  · rw [if_neg h,qH r (n+1) t]
    by_cases h1:n<=t
    · rw [if_pos h1,if_pos (by omega),show t - n=(t - (n+1))+1 by omega]
      simp
    · rw [if_neg h1,if_neg (by omega)]
theorem EE {E:Env} {w:World} {a:Act} {N:Nat} {fr:Fr} {st:St} (hf:bB E N fr a) (hs:cH E st w):∀ (rs:List ResultVar) (qs:List RV) (vs:List V),rM P rs qs=true->nO fr st qs=some vs->
 ∃ xs:List Value,(rs.mapM (fun
  |.tmp t=>pure (a.tmps.getD t undef)
  |.cell x t=>do loadVar t (<-asAddr (a.tmps.getD x undef)):ResultVar->Sem Value)).run P w=.ok xs w/\eT E.cut vs xs.toArray
 |[],[],vs,_,h=>by
  simp only [nO,Option.some.injEq] at h
  subst h
  exact ⟨[],rfl,rfl,fun j v x hj=>by simp at hj⟩
 |r::rs,[],vs,hk,h=>by cases r<;>simp [rM] at hk
 |[],q::qs,vs,hk,h=>by simp [rM] at hk
 |r::rs,q::qs,vs,hk,h=>by
  simp only [nO] at h
  split at h
  case h_2=>cases h
  rename_i v vr hv hvr
  simp only [Option.some.injEq] at h
  subst h
  have one:∃ x,((match r with
   |.tmp t=>pure (a.tmps.getD t undef)
   |.cell x t=>do loadVar t (<-asAddr (a.tmps.getD x undef)):Sem Value)).run P w=.ok x w/\Rel E.cut v x:=by
   cases r with
   |tmp t=>
    cases q with
    |cell=>simp [rM] at hk
    |t n=>
     simp only [rM,Bool.and_eq_true,decide_eq_true_eq] at hk
     obtain ⟨rfl,_⟩:=hk
     exact ⟨_,rfl,AI hv (hf.rel t)⟩
   |cell y t=>
    cases q with
    |t n=>simp [rM] at hk
    |cell n sz=>
     simp only [rM,Bool.and_eq_true,decide_eq_true_eq] at hk
     obtain ⟨⟨rfl,hz⟩,_⟩:=hk
     simp only [sD] at hv
     split at hv
     case h_2=>cases hv
     rename_i k off hp
     split at hv
     case h_2=>cases hv
     rename_i c eO
     split at hv
     case h_2=>cases hv
     rename_i u hu
     have hr:=hf.rel y
     rw [hp] at hr
     generalize hyy:a.tmps.getD y undef=yy at hr
     cases hr with
     |deep hd=>cases hd
     |p _ _ iT=>
      obtain ⟨x,hx,xU⟩:=vQ (P:=P) hz ((hs.cs eO).AK.mono (E.D2 k)) hu
      exact ⟨x,by simp only [hyy,asAddr,Sem.run_bind,Sem.run_pure,Result.andThen_ok];exact hx,AI hv xU⟩
  obtain ⟨x,hx,xU⟩:=one
  have sW:rM P rs qs=true:=by
   cases r<;>cases q<;>simp [rM] at hk
   · exact hk.2
   · exact hk.2
  obtain ⟨xs,O0,hl⟩:=EE hf hs rs qs vr sW hvr
  refine ⟨x::xs,?_,?_⟩
  · rw [List.mapM_cons]
    simp only [Sem.run_bind]
    rw [hx]
    simp only [Result.andThen_ok]
    rw [O0]
    rfl
  · refine ⟨by simpa using hl.1,fun j u y hj hy=>?_⟩
    cases j with
    |zero=>simp at hj hy;subst hj;subst hy;exact xU
    |succ j=>exact hl.2 j u y (by simpa using hj) (by simpa using hy)
theorem Wu {f n:Nat} {rvs:List RV} {fn:Func} {c:Code} (F7:P.funcs[f]? =some fn) (hb:fn.body=some c) (k1:sE P f=true) (k3:rM P fn.results.toList rvs=true) (k4:n<=fn.ntmps)
 {args:List V} (hn:args.length=n) {h:aA} {K:V->aA->Prop}
 (hw:∀ (E:Env) (w:World) (a:Act),cH E (dP h) w->bB E fn.ntmps (b9 0 args) a->a.defers=[]->c.wp P (rC fn.ntmps E (dP h) w (wC rvs K)) a w):aC P f args h K:=by
 refine ⟨k1,fun E w vs tO hs hv=>?_⟩
 refine calls_of_wp F7 hb ?_
 have Jv:=hv.1
 have Gn:bB E fn.ntmps (b9 0 args) { tmps:=vs++Array.replicate (fn.ntmps - vs.size) undef,defers:=[] }:=by
  refine ⟨by simp;omega,fun t=>?_⟩
  rw [qH,if_pos (Nat.zero_le _),Nat.sub_zero]
  by_cases ht:t<args.length
  · have h1:args[t]? =some args[t]:=by simp [ht]
    obtain ⟨x,hx,hr⟩:=hv.get h1
    have:(vs++Array.replicate (fn.ntmps - vs.size) undef).getD t undef=x:=by
     rw [Array.getD_eq_getD_getElem?,Array.getElem?_append_left (by omega),hx];rfl
    rw [this]
    simp only [List.getD_eq_getElem?_getD,h1,Option.getD_some]
    exact hr
  · simp only [List.getD_eq_getElem?_getD,List.getElem?_eq_none (Nat.le_of_not_lt ht),Option.getD_none]
    exact .gD _
 refine wp_mono (hw E w _ hs Gn rfl) ?_
 have fin:∀ (a:Act) (w':World),Iq fn.ntmps E (dP h) w (fun fr st=>match eX fr st rvs with|some v=>K v st.g|none=>False) a w'->
  a.defers=[]/\∃ v,(results fn a.tmps).run P w'=.ok v w'/\∃ v' x h' E',K v' h'/\Ending.returned v=.returned x/\E'.nl=0/\cH E' (dP h') w'/\Ext E (dP h) w E' (dP h') w'/\Rel E' v' x:=by
  rintro a w' ⟨fr,st,E',hr,s1,s2,s3,s4⟩
  refine ⟨s4,?_⟩
  have Mq:Ext E (dP h) w E'.cut (dP st.g) w':=by
   have hl:∀ k,(dP st.g).live k->st.live k:=by
    intro k hk
    obtain ⟨n,rfl,o,ho⟩:=nX hk
    exact ⟨o,ho⟩
   refine ⟨⟨s2.le.j6,s2.le.ng,by rw [tO];exact Nat.zero_le _,s2.le.loc⟩,s2.size,s2.fT,fun k hk he=>s2.gT k (hl k hk) he,fun k hk he=>s2.iB k (hl k hk) he,s2.same,s2.os,s2.out,s2.tape⟩
  unfold eX at hr
  cases vH:nO fr st rvs with
  |none=>rw [vH] at hr;exact hr.elim
  |some us=>
   obtain ⟨xs,LC,BU⟩:=EE (P:=P) s3 s1 fn.results.toList rvs us k3 vH
   have hm:(fn.results.mapM (fun
    |.tmp t=>pure (a.tmps.getD t undef)
    |.cell x t=>do loadVar t (<-asAddr (a.tmps.getD x undef)):ResultVar->Sem Value)).run P w'=.ok xs.toArray w':=by
    have e:fn.results=fn.results.toList.toArray:=by simp
    rw [e,List.mapM_toArray,map_eq_pure_bind]
    simp only [Sem.run_bind,LC,Result.andThen_ok,Sem.run_pure]
   have hlen:=BU.1
   rw [vH] at hr
   match us,xs,hlen,BU,hr,hm with
   |[v],[x],_,BU,hr,hm=>
    refine ⟨x,?_,v,x,st.g,E'.cut,hr,rfl,rfl,s1.cut,Mq,BU.2 0 v x rfl (by simp)⟩
    simp only [results,Sem.run_bind]
    exact fM hm (by simp)
   |[],[],_,BU,hr,hm=>
    refine ⟨.tuple #[],?_,.bY [],.tuple #[],st.g,E'.cut,hr,rfl,rfl,s1.cut,Mq,gC⟩
    simp only [results,Sem.run_bind]
    exact fM hm (by simp)
   |v1::v2::vr,x1::x2::xr,_,BU,hr,hm=>
    refine ⟨.tuple (x1::x2::xr).toArray,?_,.bY (v1::v2::vr),_,st.g,E'.cut,hr,rfl,rfl,s1.cut,Mq,.bY _ _ BU.1 BU.2⟩
    simp only [results,Sem.run_bind]
    exact fM hm (by simp)
 intro e a w' hq
 cases e with
 |normal=>exact fin a w' hq
 |ret=>exact fin a w' hq
 |exit id=>obtain ⟨fr,st,E',h1,_⟩:=hq;exact h1.elim
 |goto l=>exact hq.elim
 |panic ch=>exact hq.elim
 |outgrown=>exact hq.elim
theorem fn_ok {f:Nat} {F:aZ} (hk:gU P f F=true) {args:List V} (hn:args.length=F.nparams) {h:aA} {K:V->aA->Prop}
 (hw:Ip (aC P) F.body (wC F.results K) (b9 0 args) (dP h)):aC P f args h K:=by
 unfold gU at hk
 split at hk
 case h_2=>cases hk
 rename_i fn F7
 split at hk
 case h_2=>cases hk
 rename_i c hb
 simp only [Bool.and_eq_true,decide_eq_true_eq] at hk
 obtain ⟨⟨⟨k1,k2⟩,k3⟩,k4⟩:=hk
 exact Wu F7 hb k1 k3 k4 hn fun E w a hs Gn hd=>code_ok (E0:=E) (st0:=dP h) (w0:=w) F.body c k2 _ hs (.refl _ _ _) Gn hd hw
end
open Go
abbrev oD:=Nat->List V->aA->Option (V×aA)
def x9 (run:oD) (args:List V) (h:aA):Option (V×aA):=
 match args with
 |[.p (.g k) off,.fn g first cap]=>match h.get k with
  |some (.cs c)=>match c[off]? with
   |some (.i .u32 d)=>match decide (d=0) with
    |true=>match c[off+1]? with
     |some (.i .i32 m)=>match decide (m=0) with
      |true=>match run g (first++cap) (h.set k (.cs (c.set (off+1) (.i .i32 1)))) with
       |some (_,h2)=>match h2.get k with
        |some (.cs c2)=>match c2[off]?,c2[off+1]? with
         |some (.i .u32 d2),some (.i .i32 m2)=>match decide (d2=0)&&decide (m2=1) with
          |true=>some (.bY [],h2.set k (.cs ((c2.set off (.i .u32 1)).set (off+1) (.i .i32 0))))
          |false=>none
         |_,_=>none
        |_=>none
       |none=>none
      |false=>none
     |_=>none
    |false=>some (.bY [],h)
   |_=>none
  |_=>none
 |_=>none
structure dQ (P:Program) (once:Nat):Prop where
 done:∀ (k off g:Nat) (first cap c:List V) (d:Int) (h:aA) (K:V->aA->Prop),h.get k=some (.cs c)->c[off]? =some (.i .u32 d)->d≠0->K (.bY []) h->aC P once [.p (.g k) off,.fn g first cap] h K
 first:∀ (k off g:Nat) (first cap c:List V) (h:aA) (K:V->aA->Prop),h.get k=some (.cs c)->c[off]? =some (.i .u32 0)->c[off+1]? =some (.i .i32 0)->
  aC P g (first++cap) (h.set k (.cs (c.set (off+1) (.i .i32 1)))) (fun _ h2=>∃ c2,h2.get k=some (.cs c2)/\c2[off]? =some (.i .u32 0)/\c2[off+1]? =some (.i .i32 1)/\
   K (.bY []) (h2.set k (.cs ((c2.set off (.i .u32 1)).set (off+1) (.i .i32 0)))))->aC P once [.p (.g k) off,.fn g first cap] h K
def s6 (P:Program) (run:oD):Prop:=∀ f args h r h',run f args h=some (r,h')->∀ K:V->aA->Prop,K r h'->aC P f args h K
theorem onceRun_ok {P:Program} {once:Nat} (ho:dQ P once) {run:oD} (hr:s6 P run) {args:List V} {h:aA} {r:V} {h':aA} (hx:x9 run args h=some (r,h')) {K:V->aA->Prop} (hK:K r h'):aC P once args h K:=by
 unfold x9 at hx
 split at hx
 case h_2=>cases hx
 rename_i k off g first cap
 split at hx
 case h_2=>cases hx
 rename_i c hc
 split at hx
 case h_2=>cases hx
 rename_i d hd
 split at hx
 · rename_i d0
   have d0:=of_decide_eq_true d0
   subst d0
   split at hx
   case h_2=>cases hx
   rename_i m hm
   split at hx
   case h_2=>cases hx
   rename_i m0
   have m0:=of_decide_eq_true m0
   subst m0
   split at hx
   case h_2=>cases hx
   rename_i v h2 eI
   split at hx
   case h_2=>cases hx
   rename_i c2 NH
   split at hx
   case h_2=>cases hx
   rename_i d2 m2 e1 e2
   split at hx
   case h_2=>cases hx
   rename_i Gk
   simp only [Bool.and_eq_true,decide_eq_true_eq] at Gk
   obtain ⟨rfl,rfl⟩:=Gk
   cases hx
   exact ho.first k off g first cap c h K hc hd hm (hr _ _ _ _ _ eI _ ⟨c2,NH,e1,e2,hK⟩)
 · rename_i d0
   have d0:=of_decide_eq_false d0
   cases hx
   exact ho.done k off g first cap c d h K hc hd d0 hK
def exec (fns:Nat->Option aZ) (once:Nat) (mZ:oD):Nat->AC->Fr->St->Option (Ex×Fr×St)
 |0,_,_,_=>none
 |n+1,c,fr,st=>
  let run (f:Nat) (args:List V) (h:aA):Option (V×aA):=match fns f with
   |none=>none
   |some fn=>match Nat.beq args.length fn.nparams with
    |false=>none
    |true=>match exec fns once mZ n fn.body (b9 0 args) ⟨h,GD⟩ with
     |some (.normal,fr,st)=>match eX fr st fn.results with
      |some v=>some (v,st.g)
      |none=>none
     |some (.ret,fr,st)=>match eX fr st fn.results with
      |some v=>some (v,st.g)
      |none=>none
     |_=>none
  let rf (f:Nat) (args:List V) (h:aA):Option (V×aA):=
   match mZ f args h with
   |some r=>some r
   |none=>match Nat.beq f once with
    |true=>x9 run args h
    |false=>run f args h
  match c with
  |.skip=>some (.normal,fr,st)
  |.BE ops=>match (eF ops fr st).run rf with
   |some (fr,st)=>some (.normal,fr,st)
   |none=>none
  |.u0 ds kill=>match (pX [] ds fr st).run rf with
   |some (fr,st)=>fr.cut kill fun fr=>some (.normal,fr,st)
   |none=>none
  |.seq a b=>match exec fns once mZ n a fr st with
   |some (.normal,fr,st)=>exec fns once mZ n b fr st
   |r=>r
  |.cond c a b=>match c.ev fr with
   |.b true=>exec fns once mZ n a fr st
   |.b false=>exec fns once mZ n b fr st
   |_=>none
  |.bS id b=>match exec fns once mZ n b fr st with
   |some (.exit BG,fr,st)=>match Nat.beq BG id with
    |true=>some (.normal,fr,st)
    |false=>some (.exit BG,fr,st)
   |r=>r
  |.loop b=>match exec fns once mZ n b fr st with
   |some (.normal,fr,st)=>exec fns once mZ n (.loop b) fr st
   |r=>r
  |.exit id=>some (.exit id,fr,st)
  |.ret=>some (.ret,fr,st)
  |.no=>none
theorem lL {A:b7} {α:Type} {rf:oD} (hr:∀ f args h r h',rf f args h=some (r,h')->∀ K:V->aA->Prop,K r h'->A f args h K):∀ {t:T α} {a:α},t.run rf=some a->∀ K:α->Prop,K a->t.wp A K
 |.ret x,a,h,K,hk=>by simp only [T.run,Option.some.injEq] at h;subst h;exact hk
 |.ite c t e,a,h,K,hk=>by
  cases c with
  |true=>exact QU rfl (lL hr (t:=t) h K hk)
  |false=>exact QV rfl (lL hr (t:=e) h K hk)
 |.elem o k,a,h,K,hk=>by
  cases o with
  |none=>simp [T.run] at h
  |some x=>exact ⟨x,rfl,lL hr (t:=k x) h K hk⟩
 |.byte o k,a,h,K,hk=>by
  cases o with
  |none=>simp [T.run] at h
  |some x=>exact ⟨x,rfl,lL hr (t:=k x) h K hk⟩
 |.tQ o k,a,h,K,hk=>by
  cases o with
  |none=>simp [T.run] at h
  |some x=>exact ⟨x,rfl,lL hr (t:=k x) h K hk⟩
 |.F2 o k,a,h,K,hk=>by
  cases o with
  |none=>simp [T.run] at h
  |some x=>exact ⟨x,rfl,lL hr (t:=k x) h K hk⟩
 |.obj o k,a,h,K,hk=>by
  cases o with
  |none=>simp [T.run] at h
  |some x=>exact ⟨x,rfl,lL hr (t:=k x) h K hk⟩
 |.mU o n k,a,h,K,hk=>by
  cases o with
  |none=>exact QW rfl (lL hr (t:=n) h K hk)
  |some x=>exact QX rfl (lL hr (t:=k x) h K hk)
 |.jL c k,a,h,K,hk=>by
  cases c with
  |true=>exact ⟨rfl,lL hr (t:=k) h K hk⟩
  |false=>simp [T.run] at h
 |.wrap kd n k,a,h,K,hk=>.inl (lL hr (t:=k (kd.wrap n)) h K hk)
 |.any k,a,h,K,hk=>by simp [T.run] at h
 |.same v u k,a,h,K,hk=>by
  simp only [T.run] at h
  cases hb:v.beq u with
  |true=>rw [hb] at h;exact ⟨V.beq_eq hb,lL hr (t:=k) h K hk⟩
  |false=>rw [hb] at h;simp at h
 |.call f args hh k,a,h,K,hk=>by
  simp only [T.run] at h
  cases hq:rf f args hh with
  |none=>rw [hq] at h;simp at h
  |some p=>
   obtain ⟨r,h'⟩:=p
   rw [hq] at h
   exact hr f args hh r h' hq _ (lL hr (t:=k r h') h K hk)
 |.fail,a,h,K,hk=>by simp [T.run] at h
abbrev Wv (P:Program) (mZ:oD):Prop:=s6 P mZ
def bP (P:Program) (fns:Nat->Option aZ):Prop:=∀ f F,fns f=some F->gU P f F=true
theorem exec_ok {P:Program} {fns:Nat->Option aZ} {once:Nat} {mZ:oD} (hf:bP P fns) (eN:dQ P once) (ho:Wv P mZ):∀ (n:Nat) (c:AC) (fr:Fr) (st:St) (e:Ex) (cF:Fr) (cB:St),
 exec fns once mZ n c fr st=some (e,cF,cB)->∀ Q:Ex->Fr->St->Prop,Q e cF cB->Ip (aC P) c Q fr st
 |0,c,fr,st,e,cF,cB,h,Q,hq=>by simp [exec] at h
 |n+1,c,fr,st,e,cF,cB,h,Q,hq=>by
  have ih:=exec_ok hf eN ho n
  have eI:s6 P (fun (f:Nat) (args:List V) (h:aA)=>(match fns f with
   |none=>none
   |some fn=>match Nat.beq args.length fn.nparams with
    |false=>none
    |true=>match exec fns once mZ n fn.body (b9 0 args) ⟨h,GD⟩ with
     |some (.normal,fr,st)=>match eX fr st fn.results with
      |some v=>some (v,st.g)
      |none=>none
     |some (.ret,fr,st)=>match eX fr st fn.results with
      |some v=>some (v,st.g)
      |none=>none
     |_=>none:Option (V×aA))):=by
   intro f args hh r h' hr K hK
   dsimp only at hr
   split at hr
   · cases hr
   · rename_i fn F7
     split at hr
     · cases hr
     · rename_i hn
       have hn:=Nat.eq_of_beq_eq_true hn
       split at hr
       · rename_i BF st1 hx
         split at hr
         · rename_i v hv
           cases hr
           exact fn_ok (hf f fn F7) hn (ih _ _ _ _ _ _ hx _ (by simp only [wC,hv];exact hK))
         · cases hr
       · rename_i BF st1 hx
         split at hr
         · rename_i v hv
           cases hr
           exact fn_ok (hf f fn F7) hn (ih _ _ _ _ _ _ hx _ (by simp only [wC,hv];exact hK))
         · cases hr
       · cases hr
  have hrf:s6 P (fun (f:Nat) (args:List V) (h:aA)=>(match mZ f args h with
   |some r=>some r
   |none=>match Nat.beq f once with
    |true=>x9 (fun (f:Nat) (args:List V) (h:aA)=>(match fns f with
     |none=>none
     |some fn=>match Nat.beq args.length fn.nparams with
      |false=>none
      |true=>match exec fns once mZ n fn.body (b9 0 args) ⟨h,GD⟩ with
       |some (.normal,fr,st)=>match eX fr st fn.results with
        |some v=>some (v,st.g)
        |none=>none
       |some (.ret,fr,st)=>match eX fr st fn.results with
        |some v=>some (v,st.g)
        |none=>none
       |_=>none:Option (V×aA))) args h
    |false=>(match fns f with
     |none=>none
     |some fn=>match Nat.beq args.length fn.nparams with
      |false=>none
      |true=>match exec fns once mZ n fn.body (b9 0 args) ⟨h,GD⟩ with
       |some (.normal,fr,st)=>match eX fr st fn.results with
        |some v=>some (v,st.g)
        |none=>none
       |some (.ret,fr,st)=>match eX fr st fn.results with
        |some v=>some (v,st.g)
        |none=>none
       |_=>none:Option (V×aA)):Option (V×aA))):=by
   intro f args hh r h' hr K hK
   dsimp only at hr
   split at hr
   · rename_i r0 h0
     cases hr
     exact ho f args hh r h' h0 K hK
   · split at hr
     · rename_i hb
       have hb:=Nat.eq_of_beq_eq_true hb
       subst hb
       exact onceRun_ok eN eI hr hK
     · exact eI f args hh r h' hr K hK
  simp only [exec] at h
  split at h
  · cases h;exact hq
  · split at h
    · rename_i BF st1 hx
      cases h
      exact lL hrf hx _ hq
    · cases h
  · split at h
    · rename_i BF st1 hx
      rw [Fr.cU] at h
      cases h
      simp only [Ip]
      rw [T.wp_bind]
      refine lL hrf hx _ ?_
      simp only [vB]
      rw [Fr.cU]
      exact hq
    · cases h
  · rename_i a b
    split at h
    · rename_i BF st1 hx
      exact ih _ _ _ _ _ _ hx _ (ih _ _ _ _ _ _ h _ hq)
    · rename_i pH
      refine ih _ _ _ _ _ _ h _ ?_
      cases e with
      |normal=>exact (pH _ _ h).elim
      |exit id=>exact hq
      |ret=>exact hq
  · rename_i c a b
    simp only [Ip]
    split at h
    · rename_i hb
      rw [hb]
      exact QU rfl (ih _ _ _ _ _ _ h _ hq)
    · rename_i hb
      rw [hb]
      exact QV rfl (ih _ _ _ _ _ _ h _ hq)
    · cases h
  · rename_i id b
    split at h
    · rename_i BG BF st1 hx
      split at h
      · rename_i ED
        have ED:=Nat.eq_of_beq_eq_true ED
        cases h
        refine ih _ _ _ _ _ _ hx _ ?_
        simp only [j9,if_pos ED];exact hq
      · rename_i ED
        have ED:=Nat.ne_of_beq_eq_false ED
        cases h
        refine ih _ _ _ _ _ _ hx _ ?_
        simp only [j9,if_neg ED];exact hq
    · rename_i pH
      refine ih _ _ _ _ _ _ h _ ?_
      cases e with
      |normal=>exact hq
      |exit id=>exact (pH _ _ _ h).elim
      |ret=>exact hq
  · rename_i b
    intro R hR
    split at h
    · rename_i BF st1 hx
      exact hR _ _ _ (Fr.le_refl _) (ih _ _ _ _ _ _ hx _ (ih _ _ _ _ _ _ h Q hq R hR))
    · rename_i pH
      refine hR _ _ _ (Fr.le_refl _) (ih _ _ _ _ _ _ h _ ?_)
      cases e with
      |normal=>exact (pH _ _ h).elim
      |exit id=>exact hq
      |ret=>exact hq
  · cases h;exact hq
  · cases h;exact hq
  · cases h
inductive FT where
 |nil
 |node (l:FT) (k:Nat) (F:aZ) (r:FT)
def FT.get:FT->Nat->Option aZ
 |.nil,_=>none
 |.node l k F r,f=>match Nat.beq f k with
  |true=>some F
  |false=>match Nat.ble f k with
   |true=>l.get f
   |false=>r.get f
def FT.ok (P:Program):FT->Bool
 |.nil=>true
 |.node l k F r=>gU P k F&&(l.ok P&&r.ok P)
theorem FT.get_ok {P:Program}:∀ {t:FT},t.ok P=true->bP P t.get
 |.nil,_,f,F,h=>by simp [FT.get] at h
 |.node l k G r,hk,f,F,h=>by
  simp only [FT.ok,Bool.and_eq_true] at hk
  simp only [FT.get] at h
  split at h
  · rename_i hb
    have:=Nat.eq_of_beq_eq_true hb
    subst this
    cases h
    exact hk.1
  · split at h
    · exact FT.get_ok hk.2.1 f F h
    · exact FT.get_ok hk.2.2 f F h
theorem FT.node_ok {P:Program} {l r:FT} {k:Nat} {F:aZ} (a:gU P k F=true) (b:l.ok P=true) (c:r.ok P=true):(FT.node l k F r).ok P=true:=by simp [FT.ok,a,b,c]
def NO (fns:Nat->Option aZ) (once:Nat) (mZ:oD) (n:Nat) (f:Nat) (args:List V) (h:aA):Option (V×aA):=
 match fns f with
 |none=>none
 |some fn=>match Nat.beq args.length fn.nparams with
  |false=>none
  |true=>match exec fns once mZ n fn.body (b9 0 args) ⟨h,GD⟩ with
   |some (.normal,fr,st)=>match eX fr st fn.results with
    |some v=>some (v,st.g)
    |none=>none
   |some (.ret,fr,st)=>match eX fr st fn.results with
    |some v=>some (v,st.g)
    |none=>none
   |_=>none
theorem runFn_ok {P:Program} {fns:Nat->Option aZ} {once:Nat} {mZ:oD} (hf:bP P fns) (eN:dQ P once) (ho:Wv P mZ) {n f:Nat} {args:List V} {h:aA} {r:V} {h':aA}
 (hr:NO fns once mZ n f args h=some (r,h')) {K:V->aA->Prop} (hK:K r h'):aC P f args h K:=by
 unfold NO at hr
 split at hr
 · cases hr
 · rename_i fn F7
   split at hr
   · cases hr
   · rename_i hn
     have hn:=Nat.eq_of_beq_eq_true hn
     split at hr
     · rename_i BF st1 hx
       split at hr
       · rename_i v hv
         cases hr
         exact fn_ok (hf f fn F7) hn (exec_ok hf eN ho _ _ _ _ _ _ _ hx _ (by simp only [wC,hv];exact hK))
       · cases hr
     · rename_i BF st1 hx
       split at hr
       · rename_i v hv
         cases hr
         exact fn_ok (hf f fn F7) hn (exec_ok hf eN ho _ _ _ _ _ _ _ hx _ (by simp only [wC,hv];exact hK))
       · cases hr
     · cases hr
instance XR (n:Nat):OfNat bL n:=⟨.t n⟩
abbrev kI (n:Int):bL:=.c (.i .i64 n)
abbrev kT:bL:=.c (.b true)
abbrev kF:bL:=.c (.b false)
abbrev vI (n:Int):V:=.i .i64 n
abbrev vS:V:=.s []
abbrev oO (d:Nat) (o:AE) (k:List Nat):dL:=⟨some d,o,none,k⟩
abbrev oM (d:Nat) (x:bL) (k:List Nat):dL:=⟨some d,.mv x,none,k⟩
abbrev oA (d:Nat) (x:bL) (k:List Nat):dL:=⟨some d,.Nv x,none,k⟩
abbrev oN (o:AE) (k:List Nat):dL:=⟨none,o,none,k⟩
abbrev oG (d:Nat) (o:AE) (t:Nat) (k:List Nat):dL:=⟨some d,o,some (t,true),k⟩
abbrev rR (l:List dL):AC:=.BE l
abbrev rS (l:List dL) (c:AC):AC:=.seq (.BE l) c
abbrev oL (d s:Nat):dL:=oO d (.load none (.t s)) [s]
abbrev oK (d s:Nat):dL:=oO d (.load none (.t s)) []
abbrev oF (d f s:Nat):dL:=oO d (.uW f (.t s)) []
abbrev oE (d f s:Nat):dL:=oO d (.uW f (.t s)) [s]
abbrev oP (d s:Nat):dL:=oM d (.t s) []
abbrev oQ (d s:Nat):dL:=oM d (.t s) [s]
abbrev oB (d s:Nat):dL:=oA d (.t s) [s]
abbrev dq (i:Nat) (o:dL):bH:=⟨i,o,false,[]⟩
abbrev oX (d s i:Nat):dL:=oO d (.ext (.t s) i) []
end Go.Eng
namespace Go.Eng.Dc
open Go Go.Eng
abbrev S (α:Type):=Nat->Nat->Nat->Nat->List Nat->α
abbrev D (α:Type):=S ((α->S aZ)->aZ)
noncomputable section
variable {α β γ δ ε ζ η:Type}
def pu (a:α):D α:=fun x d g i ts k=>k a x d g i ts
def bd (m:D α) (f:α->D β):D β:=fun x d g i ts k=>m x d g i ts fun a x d g i ts=>f a x d g i ts k
def fc (n:Nat) (k:Nat->α):α:=Nat.rec (motive:=fun _=>α) (k 0) (fun m _=>k m.succ) n
def raw (n:Nat):D Nat:=fun x d g i ts k=>fc (x%n) fun v=>fc (x/n) fun y=>k v y d g i ts
def sy (l:List Nat):D Nat:=fun x d g i ts k=>fc (x%1024) fun r=>fc (x/1024) fun q=>
 List.rec (motive:=fun _=>Nat->Nat->aZ) (fun _ j=>k j x d g i ts) (fun c _ ih p j=>Bool.rec (motive:=fun _=>aZ) (ih c j.succ) (fc ((c - p)*q+(r - p)) fun x=>k j x d g i ts) (Nat.ble r.succ c)) l 0 0
def nth (l:List α) (z:α):Nat->α:=List.rec (motive:=fun _=>Nat->α) (fun _=>z) (fun a _ ih n=>Nat.rec (motive:=fun _=>α) a (fun m _=>ih m) n) l
def alt (t:List Nat) (z:α) (l:List (D α)):D α:=bd (sy t) (nth l (pu z))
def en (t:List Nat) (z:α) (l:List α):D α:=fun x d g i ts k=>sy t x d g i ts (nth (l.map k) (k z))
def m1 (f:α->β) (a:D α):D β:=bd a fun a=>pu (f a)
def m2 (f:α->β->γ) (a:D α) (b:D β):D γ:=bd a fun a=>m1 (f a) b
def m3 (f:α->β->γ->δ) (a:D α) (b:D β) (c:D γ):D δ:=bd a fun a=>m2 (f a) b c
def m4 (f:α->β->γ->δ->ε) (a:D α) (b:D β) (c:D γ) (d:D δ):D ε:=bd a fun a=>m3 (f a) b c d
def m5 (f:α->β->γ->δ->ε->ζ) (a:D α) (b:D β) (c:D γ) (d:D δ) (e:D ε):D ζ:=bd a fun a=>m4 (f a) b c d e
def num (t:List Nat):D Nat:=bd (sy t) fun n=>Bool.rec (motive:=fun _=>D Nat) (Bool.rec (motive:=fun _=>D Nat) (bd (raw 70) fun k=>fc (2 ^ k) raw) (fc (2 ^ (n - 12)) fun k=>bd (raw k) fun v=>fc (k+v) pu) (Nat.ble n 23)) (fc n pu) (Nat.ble n 15)
def zg (b:Nat) (n:Nat) (k:Nat->α):α:=fc (n/2) fun h=>Nat.rec (motive:=fun _=>α) (fc (b - h) k) (fun _ _=>fc (b+h.succ) k) (n%2)
def many (t:List Nat) (m:D α):D (List α):=bd (num t) fun n=>Nat.rec (motive:=fun _=>D (List α)) (pu []) (fun _ ih=>bd m fun a=>bd ih fun l=>pu (a::l)) n
def opt (t:List Nat) (m:D α):D (Option α):=alt t none [pu none,m1 some m]
def pair (a:D α) (b:D β):D (α×β):=m2 Prod.mk a b
def t0:List Nat:=[887,1024]
def t1:List Nat:=[1008,1024]
def t2:List Nat:=[566,833,868,896,910,914,928,935,956,960,964,964,969,969,969,969,977,988,1002,1002,1003,1010,1010,1011,1024]
def t3:List Nat:=[0,0,69,138,583,583,734,1024]
def t4:List Nat:=[786,807,807,996,1024]
def t5:List Nat:=[146,622,1024]
def t6:List Nat:=[235,318,331,340,346,346,347,347,348,352,352,529,605,853,892,972,1024]
def t7:List Nat:=[0,0,1024]
def t8:List Nat:=[97,97,1024]
def t9:List Nat:=[0,365,450,786,867,869,881,883,885,1022,1022,1024]
def t10:List Nat:=[51,302,348,618,663,698,1006,1007,1008,1021,1024]
def t11:List Nat:=[0,457,784,855,968,996,1010,1010,1010,1010,1010,1010,1010,1010,1010,1010,1010,1010,1010,1010,1024]
def t12:List Nat:=[72,75,484,485,560,564,606,609,643,647,674,677,699,701,712,714,803,891,969,1018,1024]
def t13:List Nat:=[876,948,966,1002,1024]
def t14:List Nat:=[152,453,620,731,796,815,862,881,894,901,907,913,918,922,929,933,1008,1013,1015,1017,1024]
def t15:List Nat:=[58,455,828,944,988,1020,1022,1023,1023,1023,1023,1024]
def t16:List Nat:=[663,1024]
def t17:List Nat:=[688,1024]
def t18:List Nat:=[871,1024]
def t19:List Nat:=[268,392,429,447,462,475,484,606,641,659,752,753,757,771,772,772,773,774,775,776,777,778,779,781,876,877,900,902,903,904,905,906,922,987,990,991,1014,1014,1014,1016,1020,1021,1022,1023,1024]
def t20:List Nat:=[0,93,372,1024]
def t21:List Nat:=[36,38,779,782,808,811,823,829,843,849,853,859,864,868,872,875,926,972,1006,1022,1024]
def t22:List Nat:=[0,0,958,958,958,958,958,958,958,958,958,958,965,965,972,972,1017,1024]
def t23:List Nat:=[870,931,984,1005,1024]
def t24:List Nat:=[184,186,285,287,348,350,405,407,458,459,500,501,541,542,576,577,792,905,971,1023,1024]
def t25:List Nat:=[437,963,964,984,1024]
def t26:List Nat:=[0,512,684,747,750,795,820,829,836,853,874,885,908,921,926,941,1010,1023,1024]
def t27:List Nat:=[41,948,949,981,984,989,993,995,996,997,998,998,1000,1001,1002,1002,1015,1023,1024]
def t28:List Nat:=[895,1024]
def t29:List Nat:=[980,1017,1022,1023,1024]
def t30:List Nat:=[66,381,397,783,853,903,927,952,1024]
def t31:List Nat:=[0,259,482,636,748,804,852,875,900,921,941,954,960,965,972,979,1016,1023,1024]
def t32:List Nat:=[400,762,862,959,985,1011,1019,1024]
def t33:List Nat:=[702,755,944,949,1002,1007,1024]
def t34:List Nat:=[876,1024]
def t35:List Nat:=[107,910,1024]
def t36:List Nat:=[0,726,856,920,964,1015,1015,1015,1015,1015,1015,1015,1015,1015,1015,1015,1015,1019,1019,1020,1024]
def t37:List Nat:=[1024]
def bool:D Bool:=en t0 false [false,true]
def int:D Int:=bd (sy t1) fun s=>bd (num t2) fun n=>Nat.rec (motive:=fun _=>D Int) (pu n) (fun _ _=>pu (-n)) s
def kd:D IntKind:=en t3 .i8 [.i8,.i16,.i32,.i64,.u8,.u16,.u32,.u64]
def sm:D lQ:=en t4 .fz [.im false,.im true,.mu false,.mu true,.fz]
def ck:D CK:=en t5 .b [.b,.i,.s]
def bop:D BinOp:=en t6 .add [.add,.sub,.mul,.quo,.rem,.and,.or,.xor,.shl,.shr,.andNot,.eql,.neq,.lss,.leq,.gtr,.geq]
def uop:D UnOp:=en t7 .neg [.neg,.xor,.not,.plus]
def u8:D UInt8:=m1 UInt8.ofNat (raw 256)
def rep (n:Nat) (a:V):List V->D (List V):=Nat.rec (motive:=fun _=>List V->D (List V)) pu (fun _ ih l=>ih (a::l)) n
def runs (m:D V):D (List V):=alt t8 [] [pu [],bd (num t37) fun n=>m1 (List.replicate n) m,bd (num t9) fun n=>Nat.rec (motive:=fun _=>D (List V)) (pu []) (fun _ ih=>bd (num t36) fun k=>bd m fun a=>bd ih (rep k a)) n]
def fid:D Nat:=raw 512
def vl:Nat->D V:=Nat.rec (pu .gD) fun _ ih=>alt t10 .gD [m1 .b bool,m1 (.i .i64) int,m2 .i kd int,pu (.s []),m1 .s (many t11 u8),pu .lJ,pu .aS,pu .gS,pu .lK,m3 .fn fid (runs ih) (runs ih),m1 .agg (runs ih),m1 .bY (runs ih),pu .gD]
def v:D V:=vl 9
def vs:D (List V):=runs v
def snoc (l:List Nat) (t:Nat):(List Nat->aZ)->aZ:=List.rec (motive:=fun _=>(List Nat->aZ)->aZ) (fun k=>k [t]) (fun a _ ih k=>ih fun l=>k (a::l)) l
def tm:D Nat:=fun x d g i ts k=>num t12 x d g i ts fun n x d g i ts=>zg d n fun t=>snoc ts t (k t x d g i)
def o:D bL:=alt t13 (.t 0) [m1 .t tm,m1 kI int,pu (.c (.b true)),pu (.c (.b false)),m1 .c v]
def sn:D Nat:=num t14
def os:D (List bL):=many t15 o
def oo:D (Option bL):=opt t16 o
def on:D (Option Nat):=opt t17 sn
def ok:D (Option IntKind):=opt t18 kd
def aop:D AE:=alt t19 .no [m1 .mv o,m1 .Nv o,m3 .pick o o o,m2 .alloc bool vs,m2 .box bool o,m2 .Ul vs (many t15 (pair sn (pair sn o))),m5 .Um sm sn sn vs (many t15 (pair sn o)),m2 .load on o,m3 .store sn o o,m1 .DX o,m3 .bin bop o o,m5 .UF bool (many t20 ck) bool o o,m3 .Zv bool o o,m2 .un uop o,m2 .UG kd o,m1 .UH o,m2 .Uo sm o,m1 .UI o,m1 .OO o,m2 .HQ fid os,m2 .DY bool ok,bd sm fun a=>m5 (.LL a) sn sn vs o o,m3 .AG o oo oo,m5 .yQ sn o oo oo oo,m2 .uW sn o,m3 .Qu sn on o,m3 .Ga sn o o,m4 .HR sn sn o o,m2 .UJ o o,m5 .QN sn sn on o o,m5 .Up ok v o o bool,m4 .LM ok o o o,m2 .ext o sn,m2 .call fid os,m2 .y8 o os,m1 .HS o,m1 .Gb o,m1 .HT sn,m1 .HU o,m2 .BI bool os,m5 .append sm sn sn o o,m3 .copy sn o o,m3 .delete ok o o,m3 .clear sn vs o,pu .no]
def dst:D (Option Nat):=fun x d g i ts k=>num t21 x d g i [] fun n x d g i ts=>Nat.rec (motive:=fun _=>aZ) (k none x d g i ts) (fun m _=>zg d m fun t=>k (some t) x t g i ts) n
def gr (b:Bool):D (Option (Nat×Bool)):=fun x d g i ts k=>k (some (g,b)) x d g i ts
def gn (b:Bool):D (Option (Nat×Bool)):=fun x d g i ts k=>num t22 x d g i ts fun n x d g i ts=>zg d n fun t=>k (some (t,b)) x d t i ts
def gd:D (Option (Nat×Bool)):=alt t23 none [pu none,gr true,gr false,gn true,gn false]
def rg:D Nat:=fun x d g i ts k=>num t24 x d g i ts fun n x d g i ts=>zg d n fun t=>k t x d g i ts
def kl:D (List Nat):=alt t25 [] [pu [],fun x d g i ts k=>k ts x d g i ts,fun x d g i ts k=>List.rec (motive:=fun _=>aZ) (k [] x d g i ts) (fun a _ _=>k [a] x d g i ts) ts,fun x d g i ts k=>List.rec (motive:=fun _=>aZ) (k [] x d g i ts) (fun _ r _=>k r x d g i ts) ts,many t26 rg]
def oper:D dL:=m4 dL.mk dst aop gd kl
def ix:D Nat:=fun x d g i ts k=>num t27 x d g i ts fun n x d g i ts=>zg i n fun t=>k t x d g t ts
def dop:D bH:=m4 bH.mk ix oper (en t28 false [false,true]) (many t29 sn)
def ac:D AC:=Nat.rec (motive:=fun _=>D AC) (pu .no) (fun _ ih=>alt t30 .no [pu .skip,m1 .BE (many t31 oper),m2 .u0 (many t31 dop) (many t26 rg),m2 .seq ih ih,m3 .cond o ih ih,m2 .bS (num t32) ih,m1 .loop ih,m1 .exit (num t33),pu .ret,pu .no]) 1000
def rv:D RV:=alt t34 (.t 0) [m1 .t sn,m2 .cell sn on]
def fn:D aZ:=m3 aZ.mk sn ac (many t35 rv)
end
end Go.Eng.Dc
namespace Go.Eng
noncomputable def dcF (x:Nat):aZ:=Dc.fn x 0 0 0 [] fun a _ _ _ _ _=>a
def Dn (_ _:aZ):Prop:=True
theorem Dn.of (a:aZ):Dn a a:=trivial
abbrev bJ (N:Nat) {a:aZ} (_:Dn (dcF N) a:=by (conv=>arg 1;whnf);dsimp only [Nat.reduceSucc,Int.cast_ofNat_Int,UInt8.reduceOfNat];exact Dn.of _):aZ:=a
end Go.Eng
