/-
Regions whose order is drawn: the check comes to what the law asks, and the law of the whole region.
-/
import Derived.Test.YtmfelikepmmjkaaGreatY07
set_option linter.unusedVariables false
set_option linter.unusedSimpArgs false
set_option maxRecDepth 100000
namespace Go.Eng
open Go
section
variable {P:Program} {ops:Array Oper} {N:Nat} {K:Fr×St->Prop} {Q:Exit->Act->World->Prop}
theorem Dx {d:bB} (h:PW P N ops d=true):∃ o,P1 P N ops d o:=by
 unfold PW at h
 split at h
 case h_2=>cases h
 rename_i o ho
 simp only [Bool.and_eq_true,decide_eq_true_eq,Bool.or_eq_true] at h
 obtain ⟨⟨⟨⟨⟨h1,h2⟩,h3⟩,h4⟩,h5⟩,h6⟩:=h
 refine ⟨o,ho,h1,h2,fun n hn=>?_,h4,fun hl=>?_,fun n hn hm=>?_⟩
 · rw [hn] at h3;simpa [ID] using h3
 · rcases h5 with h5|h5
   · rw [hl] at h5;cases h5
   · exact h5
 · rw [hn] at h6
   simp only [Bool.not_eq_true'] at h6
   rw [cW.2 hm] at h6;cases h6
theorem sH:∀ (n:Nat) {l:List Nat},l.Nodup->(∀ i∈l,i<n)->l.length<=n
 |0,l,_,hb=>by
  cases l with
  |nil=>simp
  |cons x r=>have:=hb x (.head _);omega
 |n+1,l,hn,hb=>by
  by_cases hm:n∈l
  · have hlen:=List.length_erase_of_mem hm
    have:=sH n (l:=l.erase n) (hn.erase n) (fun j hj=>by
     have h1:=(hn.mem_erase_iff.1 hj)
     have h2:=hb j h1.2
     omega)
    omega
  · have:=sH n (l:=l) hn (fun j hj=>by
     have h1:=hb j hj
     have h2:j≠n:=fun e=>hm (e▸hj)
     omega)
    omega
theorem xL:∀ (n:Nat) {l:List Nat},l.Nodup->(∀ i∈l,i<n)->l.length=n->∀ i,i<n->i∈l
 |0,l,_,_,_,i,hi=>by omega
 |n+1,l,hn,hb,hl,i,hi=>by
  have IP:n∈l:=by
   refine Classical.byContradiction fun nY=>?_
   have:l.length<=n:=by
    refine sH n hn fun j hj=>?_
    have h1:=hb j hj
    have h2:j≠n:=fun e=>nY (e▸hj)
    omega
   omega
  by_cases eB:i=n
  · subst eB;exact IP
  have hlen:=List.length_erase_of_mem IP
  have:=xL n (l:=l.erase n) (hn.erase n) (fun j hj=>by
   have h1:=(hn.mem_erase_iff.1 hj)
   have h2:=hb j h1.2
   omega) (by omega) i (by omega)
  exact List.mem_of_mem_erase this
theorem IQ {ds:List bB} (h:Dt P N ops ds=true):G3 P N ops ds:=by
 unfold Dt at h
 simp only [Bool.and_eq_true,decide_eq_true_eq,List.all_eq_true] at h
 obtain ⟨⟨⟨⟨h1,h2⟩,h3⟩,h4⟩,h5⟩:=h
 obtain ⟨e1,e2,_⟩:=zT h5
 refine ⟨h1,fun d hd=>Dx (h3 d hd),zS (allAncs_ok ops _) h4,fun pre d suf jY o ho e he hb=>?_,e2,fun i hi=>?_⟩
 · rcases e1 pre d suf jY o ho e he hb with hm|h
   · cases hm
   · exact h
 · have:=xL ops.size (l:=ds.map (·.ix)) e2 (fun j hj=>by
    obtain ⟨d,hd,rfl⟩:=List.mem_map.1 hj
    obtain ⟨o,ho⟩:=Dx (h3 d hd)
    exact (Array.getElem?_eq_some_iff.1 ho.at_).1) (by simpa using h2) i hi
   obtain ⟨d,hd,hdi⟩:=List.mem_map.1 this
   exact ⟨d,hd,hdi⟩
theorem Dy (listed:Array Bool):∀ l:List bB,gT listed l<=l.length
 |[]=>Nat.le_refl _
 |d::r=>by
  have:=Dy listed r
  simp only [gT,List.length_cons]
  split<;>omega
theorem draw_ok {ds:List bB} (hk:Dt P N ops ds=true) {id:Nat} {E:Env} {st:St} {w:World} {fr:Fr} {a:Act} (hs:b9 E st w) (hf:aY E N fr a)
 (hw:(oJ [] ds fr st).wp (aB P) K)
 (hQ:∀ bZ bU E' a' w',K (bZ,bU)->b9 E' bU w'->Ext E st w E' bU w'->aY E' N bZ a'->a'.defers=a.defers->Q .normal a' w'):
 (Code.region id ops true).wp P Q a w:=by
 have hd:=IQ hk
 refine wp_region_any hd.md ?_
 have hlen:ds.length=ops.size:=by
  unfold Dt at hk
  simp only [Bool.and_eq_true,decide_eq_true_eq] at hk
  exact hk.1.1.1.2
 have P0:∀ d∈ds,Un (Array.replicate ops.size false) d:=fun d Fj=>by
  obtain ⟨o,ho⟩:=hd.one d Fj
  have cL:=(Array.getElem?_eq_some_iff.1 ho.at_).1
  simp [Un,Array.getD_eq_getD_getElem?,cL]
 have tA:(Array.replicate ops.size false).size=ops.size:=by simp
 refine Qc (K:=K) hd (E0:=E) (st0:=st) (w0:=w) (a0:=a) (fun bZ bU E' a' w' h1 h2 h3 h4 h5=>hQ bZ bU E' a' w' h1 h2 h3 h4 h5)
  ops.size (pre:=[]) (suf:=ds) (E:=E) (st:=st) (fr:=fr) (by simp) ?_ (Ext.drawn (w.drawn+1)) rfl tA ?_ ?_
 · refine ⟨hs.of_heap (w:=w) (w':={ w with drawn:=w.drawn+1 }) rfl,hf.size,fun t _ _=>hf.rel t,⟨fun _=>0,fun d hd hu=>absurd (P0 d hd) hu,fun d hd _ _ hu=>absurd (P0 d hd) hu⟩,fun d hd=>(by cases hd),[],fun x h=>h,fun x h=>h,hw⟩
 · intro i o hi ho
   have cL:=(Array.getElem?_eq_some_iff.1 ho).1
   simp [Array.getD_eq_getD_getElem?,cL] at hi
 · rw [<-hlen];exact Dy _ _
end
open Go
def o9 (K:Fr->St->Prop) (Q:Ex->Fr->St->Prop):Ex->Fr->St->Prop
 |.normal,fr,st=>K fr st
 |.exit id,fr,st=>Q (.exit id) fr st
 |.ret,fr,st=>Q .ret fr st
def jO (id:Nat) (Q:Ex->Fr->St->Prop):Ex->Fr->St->Prop
 |.exit AN,fr,st=>if AN=id then Q .normal fr st else Q (.exit AN) fr st
 |.normal,fr,st=>Q .normal fr st
 |.ret,fr,st=>Q .ret fr st
def iE (Q:Ex->Fr->St->Prop):Fr×St->Prop
 |(fr,st)=>Q .normal fr st
def tF (kill:List Nat):Fr×St->T (Fr×St)
 |(fr,st)=>fr.cut kill fun fr=>.ret (fr,st)
def Fr.le (f g:Fr):Prop:=∀ t,f.get t=g.get t\/f.get t=.fK
theorem Fr.le_refl (f:Fr):Fr.le f f:=fun _=>.inl rfl
theorem Fr.le_nil {g:Fr}:Fr.le [] g:=fun _=>.inr rfl
theorem Fr.Ta {n:Nat} {v:V} {r g:Fr} (h:g.get n=v) (hr:Fr.le r g):Fr.le ((n,v)::r) g:=by
 intro t
 simp only [Fr.get]
 split
 · rename_i hn;subst hn;exact .inl h.symm
 · exact hr t
theorem aY.le {E:Env} {N:Nat} {f g:Fr} {a:Act} (h:aY E N g a) (hl:Fr.le f g):aY E N f a:=by
 refine ⟨h.size,fun t=>?_⟩
 rcases hl t with h1|h1
 · rw [h1];exact h.rel t
 · rw [h1];exact .fK _
def G9 (A:bS):AC->(Ex->Fr->St->Prop)->Fr->St->Prop
 |.skip,Q,fr,st=>Q .normal fr st
 |.AK ops,Q,fr,st=>(dU ops fr st).wp A (iE Q)
 |.tD ds kill,Q,fr,st=>((oJ [] ds fr st).bind (tF kill)).wp A (iE Q)
 |.seq a b,Q,fr,st=>G9 A a (o9 (G9 A b Q) Q) fr st
 |.cond c a b,Q,fr,st=>match c.ev fr with
  |.b x=>X9 x (G9 A a Q fr st) (G9 A b Q fr st)
  |_=>False
 |.bL id b,Q,fr,st=>G9 A b (jO id Q) fr st
 |.loop b,Q,fr,st=>∀ R:Fr->St->Prop,(∀ fr bZ st,Fr.le bZ fr->G9 A b (o9 R Q) bZ st->R fr st)->R fr st
 |.exit id,Q,fr,st=>Q (.exit id) fr st
 |.ret,Q,fr,st=>Q .ret fr st
 |.no,_,_,_=>False
def wQ (P:Program) (N:Nat):Code->AC->Bool
 |.skip,.skip=>true
 |.label _,.skip=>true
 |.region _ ops draw,.AK aoP=>!draw&&xG P N ops ops.toList aoP
 |.region _ ops draw,.tD ds _=>draw&&Dt P N ops ds
 |.seq a b,.seq A B=>wQ P N a A&&wQ P N b B
 |.cond c a b,.cond d A B=>dY c d&&wQ P N a A&&wQ P N b B
 |.block id b,.bL AN B=>decide (id=AN)&&wQ P N b B
 |.loop b,.loop B=>wQ P N b B
 |.exit id,.exit AN=>decide (id=AN)
 |.ret,.ret=>true
 |_,.no=>true
 |_,_=>false
section
variable {P:Program} {N:Nat} {E0:Env} {st0:St} {w0:World}
structure Ha (N:Nat) (E0:Env) (st0:St) (w0:World) (K:Fr->St->Prop) (a:Act) (w:World):Prop where
 ex:∃ fr st E,K fr st/\b9 E st w/\Ext E0 st0 w0 E st w/\aY E N fr a/\a.defers=[]
def pS (N:Nat) (E0:Env) (st0:St) (w0:World) (Q:Ex->Fr->St->Prop):Exit->Act->World->Prop
 |.normal,a,w=>Ha N E0 st0 w0 (Q .normal) a w
 |.exit id,a,w=>Ha N E0 st0 w0 (Q (.exit id)) a w
 |.ret,a,w=>Ha N E0 st0 w0 (Q .ret) a w
 |_,_,_=>False
def iF (P:Program) (c:Code) (Qm:Exit->Act->World->Prop) (a:Act) (w:World):Prop:=
 ∀ (b:Frame) (k:List Item) (cs:List Frame),∃ e a' w',Qm e a' w'/\Arrives P (lone (b.at a (.code c::.inLoop c::k)) cs w) b k cs e a' w'
theorem iF.loop {c:Code} {Qm:Exit->Act->World->Prop} {a:Act} {w:World} (h:iF P c Qm a w):(Code.loop c).wp P Qm a w:=
 fun b k cs=>let ⟨e,a',w',hq,Hb⟩:=h b k cs;⟨e,a',w',hq,.of_steps (.one step_loop) Hb⟩
theorem iF.round {c:Code} {Q:Ex->Fr->St->Prop} {R:Fr->St->Prop} {a:Act} {w:World} (h:c.wp P (pS N E0 st0 w0 (o9 R Q)) a w)
 (hR:∀ a w,Ha N E0 st0 w0 R a w->iF P c (pS N E0 st0 w0 Q) a w):iF P c (pS N E0 st0 w0 Q) a w:=by
 intro b k cs
 obtain ⟨e,a₁,w₁,hq,Hb⟩:=h b (.inLoop c::k) cs
 cases e with
 |normal=>
  obtain ⟨e₂,a₂,w₂,hq₂,Qd⟩:=hR a₁ w₁ hq b k cs
  exact ⟨e₂,a₂,w₂,hq₂,.of_steps (Steps.trans Hb (.one step_inLoop)) Qd⟩
 |exit id=>exact ⟨.exit id,a₁,w₁,hq,.pass (x:=.inLoop c) rfl (fun _ _=>.inl (by simp)) Hb⟩
 |ret=>exact ⟨.ret,a₁,w₁,hq,.pass (x:=.inLoop c) rfl (fun _ _=>.inl (by simp)) Hb⟩
 |goto l=>exact hq.elim
 |panic ch=>exact hq.elim
 |outgrown=>exact hq.elim
theorem code_ok:∀ (A:AC) (c:Code),wQ P N c A=true->∀ (Q:Ex->Fr->St->Prop) {fr:Fr} {st:St} {E:Env} {w:World} {a:Act},
 b9 E st w->Ext E0 st0 w0 E st w->aY E N fr a->a.defers=[]->G9 (aB P) A Q fr st->c.wp P (pS N E0 st0 w0 Q) a w
 |.skip,c,hk,Q,fr,st,E,w,a,hs,he,hf,hd,hw=>by
  cases c<;>simp [wQ] at hk
  · exact wp_skip ⟨fr,st,E,hw,hs,he,hf,hd⟩
  · exact wp_label ⟨fr,st,E,hw,hs,he,hf,hd⟩
 |.AK aoP,c,hk,Q,fr,st,E,w,a,hs,he,hf,hd,hw=>by
  cases c<;>simp [wQ] at hk
  rename_i id ops draw
  obtain ⟨rfl,hk⟩:=hk
  refine wp_region ?_
  have:=ops_ok (K:=iE Q) (Q:=pS N E0 st0 w0 Q) aoP ops.toList 0 hk (fun k o h=>by simpa using h) hs hf hw (fun bZ bU E' a' w' h1 h2 h3 h4 h5=>⟨bZ,bU,E',h1,h2,he.trans h3,h4,h5.trans hd⟩)
  rw [List.range_eq_range']
  simpa using this
 |.tD ds kill,c,hk,Q,fr,st,E,w,a,hs,he,hf,hd,hw=>by
  cases c<;>simp [wQ] at hk
  rename_i id ops draw
  obtain ⟨rfl,hk⟩:=hk
  simp only [G9] at hw
  rw [T.wp_bind] at hw
  refine draw_ok hk hs hf hw fun bZ bU E' a' w' h1 h2 h3 h4 h5=>?_
  simp only [tF] at h1
  rw [Fr.cN] at h1
  refine ⟨bZ.nF kill,bU,E',h1,h2,he.trans h3,⟨h4.size,fun t=>?_⟩,h5.trans hd⟩
  rw [Fr.gN]
  split
  · exact .fK _
  · exact h4.rel t
 |.seq A B,c,hk,Q,fr,st,E,w,a,hs,he,hf,hd,hw=>by
  cases c<;>simp [wQ] at hk
  rename_i x y
  refine wp_seq ?_
  refine wp_mono (code_ok A x hk.1 _ hs he hf hd hw) ?_
  intro e a' w' h
  cases e with
  |normal=>
   obtain ⟨bZ,bU,E',h1,h2,h3,h4,h5⟩:=h
   exact code_ok B y hk.2 Q h2 h3 h4 h5 h1
  |exit id=>exact h
  |ret=>exact h
  |goto l=>exact h
  |panic ch=>exact h
  |outgrown=>exact h
 |.cond d A B,c,hk,Q,fr,st,E,w,a,hs,he,hf,hd,hw=>by
  cases c<;>simp [wQ] at hk
  rename_i x y z
  have r1:=bA hk.1.1 hf
  simp only [G9] at hw
  split at hw
  · rename_i b hb
    rw [hb] at r1
    exact wp_cond_split r1.bool (fun hb=>code_ok A y hk.1.2 Q hs he hf hd (hw.1 hb)) (fun hb=>code_ok B z hk.2 Q hs he hf hd (hw.2 hb))
  · exact hw.elim
 |.bL id B,c,hk,Q,fr,st,E,w,a,hs,he,hf,hd,hw=>by
  cases c<;>simp [wQ] at hk
  rename_i AN x
  obtain ⟨rfl,hk⟩:=hk
  refine wp_block (wp_mono (code_ok B x hk _ hs he hf hd hw) ?_)
  intro e a' w' h
  cases e with
  |normal=>exact h
  |exit id=>
   obtain ⟨bZ,bU,E',h1,h2⟩:=h
   simp only [jO] at h1
   simp only [Exit.inBlock]
   split
   · rename_i Dz;rw [if_pos Dz] at h1;exact ⟨bZ,bU,E',h1,h2⟩
   · rename_i Dz;rw [if_neg Dz] at h1;exact ⟨bZ,bU,E',h1,h2⟩
  |ret=>exact h
  |goto l=>exact h
  |panic ch=>exact h
  |outgrown=>exact h
 |.loop B,c,hk,Q,fr,st,E,w,a,hs,he,hf,hd,hw=>by
  cases c<;>simp [wQ] at hk
  rename_i x
  have key:=hw (fun fr st=>∀ (E:Env) (w:World) (a:Act),b9 E st w->Ext E0 st0 w0 E st w->aY E N fr a->a.defers=[]->iF P x (pS N E0 st0 w0 Q) a w) (by
   intro bZ rB bU hle h' E' w' a' s1 s2 s3 s4
   refine iF.round (code_ok B x hk _ s1 s2 (s3.le hle) s4 h') ?_
   rintro a2 w2 ⟨UD,st2,E2,h1,h2,h3,h4,h5⟩
   exact h1 E2 w2 a2 h2 h3 h4 h5)
  exact (key E w a hs he hf hd).loop
 |.exit id,c,hk,Q,fr,st,E,w,a,hs,he,hf,hd,hw=>by
  cases c<;>simp [wQ] at hk
  subst hk
  exact wp_exit ⟨fr,st,E,hw,hs,he,hf,hd⟩
 |.ret,c,hk,Q,fr,st,E,w,a,hs,he,hf,hd,hw=>by
  cases c<;>simp [wQ] at hk
  exact wp_ret ⟨fr,st,E,hw,hs,he,hf,hd⟩
 |.no,c,hk,Q,fr,st,E,w,a,hs,he,hf,hd,hw=>hw.elim
end
def qA (P:Program):List ResultVar->List RV->Bool
 |[],[]=>true
 |.tmp t::r,.t n::q=>decide (t=n)&&qA P r q
 |.cell x t::r,.cell n sz::q=>decide (x=n)&&tU P t sz&&qA P r q
 |_,_=>false
def gE (P:Program) (f:Nat) (F:aW):Bool:=
 match P.funcs[f]? with
 |some fn=>match fn.body with
  |some c=>qL P f&&wQ P fn.ntmps c F.body&&qA P fn.results.toList F.results&&decide (F.nparams<=fn.ntmps)
  |none=>false
 |none=>false
def wR (rs:List RV) (K:V->aA->Prop):Ex->Fr->St->Prop
 |.exit _,_,_=>False
 |.normal,fr,st=>match eX fr st rs with
  |some v=>K v st.g
  |none=>False
 |.ret,fr,st=>match eX fr st rs with
  |some v=>K v st.g
  |none=>False
section
variable {P:Program}
theorem pA:∀ (args:List V) (n t:Nat),(bT n args).get t=if n<=t then args.getD (t - n) .fK else .fK
 |[],n,t=>by simp [bT,Fr.get]
 |v::r,n,t=>by
  simp only [bT,Fr.get]
  by_cases h:n=t
  · subst h;simp
  · rw [if_neg h,pA r (n+1) t]
    by_cases h1:n<=t
    · rw [if_pos h1,if_pos (by omega),show t - n=(t - (n+1))+1 by omega]
      simp
    · rw [if_neg h1,if_neg (by omega)]
theorem DA {E:Env} {w:World} {a:Act} {N:Nat} {fr:Fr} {st:St} (hf:aY E N fr a) (hs:b9 E st w):∀ (rs:List ResultVar) (qs:List RV) (vs:List V),qA P rs qs=true->nQ fr st qs=some vs->
 ∃ xs:List Value,(rs.mapM (fun
  |.tmp t=>pure (a.tmps.getD t undef)
  |.cell x t=>do loadVar t (<-asAddr (a.tmps.getD x undef)):ResultVar->Sem Value)).run P w=.ok xs w/\eI E.cut vs xs.toArray
 |[],[],vs,_,h=>by
  simp only [nQ,Option.some.injEq] at h
  subst h
  exact ⟨[],rfl,rfl,fun j v x hj=>by simp at hj⟩
 |r::rs,[],vs,hk,h=>by cases r<;>simp [qA] at hk
 |[],q::qs,vs,hk,h=>by simp [qA] at hk
 |r::rs,q::qs,vs,hk,h=>by
  simp only [nQ] at h
  split at h
  case h_2=>cases h
  rename_i v vr hv hvr
  simp only [Option.some.injEq] at h
  subst h
  have one:∃ x,((match r with
   |.tmp t=>pure (a.tmps.getD t undef)
   |.cell x t=>do loadVar t (<-asAddr (a.tmps.getD x undef)):Sem Value)).run P w=.ok x w/\Rel E.cut v x:=by
   cases r with
   |tmp t=>
    cases q with
    |cell=>simp [qA] at hk
    |t n=>
     simp only [qA,Bool.and_eq_true,decide_eq_true_eq] at hk
     obtain ⟨rfl,_⟩:=hk
     exact ⟨_,rfl,zC hv (hf.rel t)⟩
   |cell y t=>
    cases q with
    |t n=>simp [qA] at hk
    |cell n sz=>
     simp only [qA,Bool.and_eq_true,decide_eq_true_eq] at hk
     obtain ⟨⟨rfl,hz⟩,_⟩:=hk
     simp only [tS] at hv
     split at hv
     case h_2=>cases hv
     rename_i k off hp
     split at hv
     case h_2=>cases hv
     rename_i c eC
     split at hv
     case h_2=>cases hv
     rename_i u hu
     have hr:=hf.rel y
     rw [hp] at hr
     generalize hyy:a.tmps.getD y undef=yy at hr
     cases hr with
     |deep hd=>cases hd
     |p _ _ hZ=>
      obtain ⟨x,hx,vM⟩:=tV (P:=P) hz ((hs.cs eC).zE.mono (E.C0 k)) hu
      exact ⟨x,by simp only [hyy,asAddr,Sem.run_bind,Sem.run_pure,Result.andThen_ok];exact hx,zC hv vM⟩
  obtain ⟨x,hx,vM⟩:=one
  have qO:qA P rs qs=true:=by
   cases r<;>cases q<;>simp [qA] at hk
   · exact hk.2
   · exact hk.2
  obtain ⟨xs,Nt,hl⟩:=DA hf hs rs qs vr qO hvr
  refine ⟨x::xs,?_,?_⟩
  · rw [List.mapM_cons]
    simp only [Sem.run_bind]
    rw [hx]
    simp only [Result.andThen_ok]
    rw [Nt]
    rfl
  · refine ⟨by simpa using hl.1,fun j u y hj hy=>?_⟩
    cases j with
    |zero=>simp at hj hy;subst hj;subst hy;exact vM
    |succ j=>exact hl.2 j u y (by simpa using hj) (by simpa using hy)
theorem UG {f n:Nat} {YV:List RV} {fn:Func} {c:Code} (FL:P.funcs[f]? =some fn) (hb:fn.body=some c) (k1:qL P f=true) (k3:qA P fn.results.toList YV=true) (k4:n<=fn.ntmps)
 {args:List V} (hn:args.length=n) {h:aA} {K:V->aA->Prop}
 (hw:∀ (E:Env) (w:World) (a:Act),b9 E (dG h) w->aY E fn.ntmps (bT 0 args) a->a.defers=[]->c.wp P (pS fn.ntmps E (dG h) w (wR YV K)) a w):aB P f args h K:=by
 refine ⟨k1,fun E w vs rX hs hv=>?_⟩
 refine calls_of_wp FL hb ?_
 have H3:=hv.1
 have Tb:aY E fn.ntmps (bT 0 args) { tmps:=vs++Array.replicate (fn.ntmps - vs.size) undef,defers:=[] }:=by
  refine ⟨by simp;omega,fun t=>?_⟩
  rw [pA,if_pos (Nat.zero_le _),Nat.sub_zero]
  by_cases ht:t<args.length
  · have h1:args[t]? =some args[t]:=by simp [ht]
    obtain ⟨x,hx,hr⟩:=hv.get h1
    have:(vs++Array.replicate (fn.ntmps - vs.size) undef).getD t undef=x:=by
     rw [Array.getD_eq_getD_getElem?,Array.getElem?_append_left (by omega),hx];rfl
    rw [this]
    simp only [List.getD_eq_getElem?_getD,h1,Option.getD_some]
    exact hr
  · simp only [List.getD_eq_getElem?_getD,List.getElem?_eq_none (Nat.le_of_not_lt ht),Option.getD_none]
    exact .fK _
 refine wp_mono (hw E w _ hs Tb rfl) ?_
 have fin:∀ (a:Act) (w':World),Ha fn.ntmps E (dG h) w (fun fr st=>match eX fr st YV with|some v=>K v st.g|none=>False) a w'->
  a.defers=[]/\∃ v,(results fn a.tmps).run P w'=.ok v w'/\∃ v' x h' E',K v' h'/\Ending.returned v=.returned x/\E'.nl=0/\b9 E' (dG h') w'/\Ext E (dG h) w E' (dG h') w'/\Rel E' v' x:=by
  rintro a w' ⟨fr,st,E',hr,s1,s2,s3,s4⟩
  refine ⟨s4,?_⟩
  have KY:Ext E (dG h) w E'.cut (dG st.g) w':=by
   have hl:∀ k,(dG st.g).live k->st.live k:=by
    intro k hk
    obtain ⟨n,rfl,o,ho⟩:=mT hk
    exact ⟨o,ho⟩
   refine ⟨⟨s2.le.jL,s2.le.ng,by rw [rX];exact Nat.zero_le _,s2.le.loc⟩,s2.size,s2.fF,fun k hk he=>s2.gD k (hl k hk) he,fun k hk he=>s2.gM k (hl k hk) he,s2.same,s2.os,s2.out,s2.tape⟩
  unfold eX at hr
  cases wN:nQ fr st YV with
  |none=>rw [wN] at hr;exact hr.elim
  |some us=>
   obtain ⟨xs,Kh,Ch⟩:=DA (P:=P) s3 s1 fn.results.toList YV us k3 wN
   have hm:(fn.results.mapM (fun
    |.tmp t=>pure (a.tmps.getD t undef)
    |.cell x t=>do loadVar t (<-asAddr (a.tmps.getD x undef)):ResultVar->Sem Value)).run P w'=.ok xs.toArray w':=by
    have e:fn.results=fn.results.toList.toArray:=by simp
    rw [e,List.mapM_toArray,map_eq_pure_bind]
    simp only [Sem.run_bind,Kh,Result.andThen_ok,Sem.run_pure]
   have hlen:=Ch.1
   rw [wN] at hr
   match us,xs,hlen,Ch,hr,hm with
   |[v],[x],_,Ch,hr,hm=>
    refine ⟨x,?_,v,x,st.g,E'.cut,hr,rfl,rfl,s1.cut,KY,Ch.2 0 v x rfl (by simp)⟩
    simp only [results,Sem.run_bind]
    exact fA hm (by simp)
   |[],[],_,Ch,hr,hm=>
    refine ⟨.tuple #[],?_,.bY [],.tuple #[],st.g,E'.cut,hr,rfl,rfl,s1.cut,KY,fJ⟩
    simp only [results,Sem.run_bind]
    exact fA hm (by simp)
   |v1::v2::vr,x1::x2::xr,_,Ch,hr,hm=>
    refine ⟨.tuple (x1::x2::xr).toArray,?_,.bY (v1::v2::vr),_,st.g,E'.cut,hr,rfl,rfl,s1.cut,KY,.bY _ _ Ch.1 Ch.2⟩
    simp only [results,Sem.run_bind]
    exact fA hm (by simp)
 intro e a w' hq
 cases e with
 |normal=>exact fin a w' hq
 |ret=>exact fin a w' hq
 |exit id=>obtain ⟨fr,st,E',h1,_⟩:=hq;exact h1.elim
 |goto l=>exact hq.elim
 |panic ch=>exact hq.elim
 |outgrown=>exact hq.elim
theorem fn_ok {f:Nat} {F:aW} (hk:gE P f F=true) {args:List V} (hn:args.length=F.nparams) {h:aA} {K:V->aA->Prop}
 (hw:G9 (aB P) F.body (wR F.results K) (bT 0 args) (dG h)):aB P f args h K:=by
 unfold gE at hk
 split at hk
 case h_2=>cases hk
 rename_i fn FL
 split at hk
 case h_2=>cases hk
 rename_i c hb
 simp only [Bool.and_eq_true,decide_eq_true_eq] at hk
 obtain ⟨⟨⟨k1,k2⟩,k3⟩,k4⟩:=hk
 exact UG FL hb k1 k3 k4 hn fun E w a hs Tb hd=>code_ok (E0:=E) (st0:=dG h) (w0:=w) F.body c k2 _ hs (.refl _ _ _) Tb hd hw
end
open Go
abbrev mX:=Nat->List V->aA->Option (V×aA)
def vV (run:mX) (args:List V) (h:aA):Option (V×aA):=
 match args with
 |[.p (.g k) off,.fn g first cap]=>match h.get k with
  |some (.cs c)=>match c[off]? with
   |some (.i .u32 d)=>match decide (d=0) with
    |true=>match c[off+1]? with
     |some (.i .i32 m)=>match decide (m=0) with
      |true=>match run g (first++cap) (h.set k (.cs (c.set (off+1) (.i .i32 1)))) with
       |some (_,h2)=>match h2.get k with
        |some (.cs c2)=>match c2[off]?,c2[off+1]? with
         |some (.i .u32 d2),some (.i .i32 m2)=>match decide (d2=0)&&decide (m2=1) with
          |true=>some (.bY [],h2.set k (.cs ((c2.set off (.i .u32 1)).set (off+1) (.i .i32 0))))
          |false=>none
         |_,_=>none
        |_=>none
       |none=>none
      |false=>none
     |_=>none
    |false=>some (.bY [],h)
   |_=>none
  |_=>none
 |_=>none
structure eD (P:Program) (once:Nat):Prop where
 done:∀ (k off g:Nat) (first cap c:List V) (d:Int) (h:aA) (K:V->aA->Prop),h.get k=some (.cs c)->c[off]? =some (.i .u32 d)->d≠0->K (.bY []) h->aB P once [.p (.g k) off,.fn g first cap] h K
 first:∀ (k off g:Nat) (first cap c:List V) (h:aA) (K:V->aA->Prop),h.get k=some (.cs c)->c[off]? =some (.i .u32 0)->c[off+1]? =some (.i .i32 0)->
  aB P g (first++cap) (h.set k (.cs (c.set (off+1) (.i .i32 1)))) (fun _ h2=>∃ c2,h2.get k=some (.cs c2)/\c2[off]? =some (.i .u32 0)/\c2[off+1]? =some (.i .i32 1)/\
   K (.bY []) (h2.set k (.cs ((c2.set off (.i .u32 1)).set (off+1) (.i .i32 0)))))->aB P once [.p (.g k) off,.fn g first cap] h K
def rD (P:Program) (run:mX):Prop:=∀ f args h r h',run f args h=some (r,h')->∀ K:V->aA->Prop,K r h'->aB P f args h K
theorem onceRun_ok {P:Program} {once:Nat} (ho:eD P once) {run:mX} (hr:rD P run) {args:List V} {h:aA} {r:V} {h':aA} (hx:vV run args h=some (r,h')) {K:V->aA->Prop} (hK:K r h'):aB P once args h K:=by
 unfold vV at hx
 split at hx
 case h_2=>cases hx
 rename_i k off g first cap
 split at hx
 case h_2=>cases hx
 rename_i c hc
 split at hx
 case h_2=>cases hx
 rename_i d hd
 split at hx
 · rename_i d0
   have d0:=of_decide_eq_true d0
   subst d0
   split at hx
   case h_2=>cases hx
   rename_i m hm
   split at hx
   case h_2=>cases hx
   rename_i m0
   have m0:=of_decide_eq_true m0
   subst m0
   split at hx
   case h_2=>cases hx
   rename_i v h2 dW
   split at hx
   case h_2=>cases hx
   rename_i c2 OW
   split at hx
   case h_2=>cases hx
   rename_i d2 m2 e1 e2
   split at hx
   case h_2=>cases hx
   rename_i Fj
   simp only [Bool.and_eq_true,decide_eq_true_eq] at Fj
   obtain ⟨rfl,rfl⟩:=Fj
   cases hx
   exact ho.first k off g first cap c h K hc hd hm (hr _ _ _ _ _ dW _ ⟨c2,OW,e1,e2,hK⟩)
 · rename_i d0
   have d0:=of_decide_eq_false d0
   cases hx
   exact ho.done k off g first cap c d h K hc hd d0 hK
def exec (fns:Nat->Option aW) (once:Nat) (lW:mX):Nat->AC->Fr->St->Option (Ex×Fr×St)
 |0,_,_,_=>none
 |n+1,c,fr,st=>
  let run (f:Nat) (args:List V) (h:aA):Option (V×aA):=match fns f with
   |none=>none
   |some fn=>match Nat.beq args.length fn.nparams with
    |false=>none
    |true=>match exec fns once lW n fn.body (bT 0 args) ⟨h,Ia⟩ with
     |some (.normal,fr,st)=>match eX fr st fn.results with
      |some v=>some (v,st.g)
      |none=>none
     |some (.ret,fr,st)=>match eX fr st fn.results with
      |some v=>some (v,st.g)
      |none=>none
     |_=>none
  let rf (f:Nat) (args:List V) (h:aA):Option (V×aA):=
   match lW f args h with
   |some r=>some r
   |none=>match Nat.beq f once with
    |true=>vV run args h
    |false=>run f args h
  match c with
  |.skip=>some (.normal,fr,st)
  |.AK ops=>match (dU ops fr st).run rf with
   |some (fr,st)=>some (.normal,fr,st)
   |none=>none
  |.tD ds kill=>match (oJ [] ds fr st).run rf with
   |some (fr,st)=>fr.cut kill fun fr=>some (.normal,fr,st)
   |none=>none
  |.seq a b=>match exec fns once lW n a fr st with
   |some (.normal,fr,st)=>exec fns once lW n b fr st
   |r=>r
  |.cond c a b=>match c.ev fr with
   |.b true=>exec fns once lW n a fr st
   |.b false=>exec fns once lW n b fr st
   |_=>none
  |.bL id b=>match exec fns once lW n b fr st with
   |some (.exit AN,fr,st)=>match Nat.beq AN id with
    |true=>some (.normal,fr,st)
    |false=>some (.exit AN,fr,st)
   |r=>r
  |.loop b=>match exec fns once lW n b fr st with
   |some (.normal,fr,st)=>exec fns once lW n (.loop b) fr st
   |r=>r
  |.exit id=>some (.exit id,fr,st)
  |.ret=>some (.ret,fr,st)
  |.no=>none
theorem kH {A:bS} {α:Type} {rf:mX} (hr:∀ f args h r h',rf f args h=some (r,h')->∀ K:V->aA->Prop,K r h'->A f args h K):∀ {t:T α} {a:α},t.run rf=some a->∀ K:α->Prop,K a->t.wp A K
 |.ret x,a,h,K,hk=>by simp only [T.run,Option.some.injEq] at h;subst h;exact hk
 |.ite c t e,a,h,K,hk=>by
  cases c with
  |true=>exact Pd rfl (kH hr (t:=t) h K hk)
  |false=>exact Pe rfl (kH hr (t:=e) h K hk)
 |.elem o k,a,h,K,hk=>by
  cases o with
  |none=>simp [T.run] at h
  |some x=>exact ⟨x,rfl,kH hr (t:=k x) h K hk⟩
 |.byte o k,a,h,K,hk=>by
  cases o with
  |none=>simp [T.run] at h
  |some x=>exact ⟨x,rfl,kH hr (t:=k x) h K hk⟩
 |.rZ o k,a,h,K,hk=>by
  cases o with
  |none=>simp [T.run] at h
  |some x=>exact ⟨x,rfl,kH hr (t:=k x) h K hk⟩
 |.EU o k,a,h,K,hk=>by
  cases o with
  |none=>simp [T.run] at h
  |some x=>exact ⟨x,rfl,kH hr (t:=k x) h K hk⟩
 |.obj o k,a,h,K,hk=>by
  cases o with
  |none=>simp [T.run] at h
  |some x=>exact ⟨x,rfl,kH hr (t:=k x) h K hk⟩
 |.lS o n k,a,h,K,hk=>by
  cases o with
  |none=>exact Pf rfl (kH hr (t:=n) h K hk)
  |some x=>exact Pg rfl (kH hr (t:=k x) h K hk)
 |.iT c k,a,h,K,hk=>by
  cases c with
  |true=>exact ⟨rfl,kH hr (t:=k) h K hk⟩
  |false=>simp [T.run] at h
 |.wrap kd n k,a,h,K,hk=>.inl (kH hr (t:=k (kd.wrap n)) h K hk)
 |.any k,a,h,K,hk=>by simp [T.run] at h
 |.same v u k,a,h,K,hk=>by
  simp only [T.run] at h
  cases hb:v.beq u with
  |true=>rw [hb] at h;exact ⟨V.beq_eq hb,kH hr (t:=k) h K hk⟩
  |false=>rw [hb] at h;simp at h
 |.call f args hh k,a,h,K,hk=>by
  simp only [T.run] at h
  cases hq:rf f args hh with
  |none=>rw [hq] at h;simp at h
  |some p=>
   obtain ⟨r,h'⟩:=p
   rw [hq] at h
   exact hr f args hh r h' hq _ (kH hr (t:=k r h') h K hk)
 |.fail,a,h,K,hk=>by simp [T.run] at h
abbrev UH (P:Program) (lW:mX):Prop:=rD P lW
def bN (P:Program) (fns:Nat->Option aW):Prop:=∀ f F,fns f=some F->gE P f F=true
theorem exec_ok {P:Program} {fns:Nat->Option aW} {once:Nat} {lW:mX} (hf:bN P fns) (fD:eD P once) (ho:UH P lW):∀ (n:Nat) (c:AC) (fr:Fr) (st:St) (e:Ex) (bZ:Fr) (bU:St),
 exec fns once lW n c fr st=some (e,bZ,bU)->∀ Q:Ex->Fr->St->Prop,Q e bZ bU->G9 (aB P) c Q fr st
 |0,c,fr,st,e,bZ,bU,h,Q,hq=>by simp [exec] at h
 |n+1,c,fr,st,e,bZ,bU,h,Q,hq=>by
  have ih:=exec_ok hf fD ho n
  have dW:rD P (fun (f:Nat) (args:List V) (h:aA)=>(match fns f with
   |none=>none
   |some fn=>match Nat.beq args.length fn.nparams with
    |false=>none
    |true=>match exec fns once lW n fn.body (bT 0 args) ⟨h,Ia⟩ with
     |some (.normal,fr,st)=>match eX fr st fn.results with
      |some v=>some (v,st.g)
      |none=>none
     |some (.ret,fr,st)=>match eX fr st fn.results with
      |some v=>some (v,st.g)
      |none=>none
     |_=>none:Option (V×aA))):=by
   intro f args hh r h' hr K hK
   dsimp only at hr
   split at hr
   · cases hr
   · rename_i fn FL
     split at hr
     · cases hr
     · rename_i hn
       have hn:=Nat.eq_of_beq_eq_true hn
       split at hr
       · rename_i AL st1 hx
         split at hr
         · rename_i v hv
           cases hr
           exact fn_ok (hf f fn FL) hn (ih _ _ _ _ _ _ hx _ (by simp only [wR,hv];exact hK))
         · cases hr
       · rename_i AL st1 hx
         split at hr
         · rename_i v hv
           cases hr
           exact fn_ok (hf f fn FL) hn (ih _ _ _ _ _ _ hx _ (by simp only [wR,hv];exact hK))
         · cases hr
       · cases hr
  have hrf:rD P (fun (f:Nat) (args:List V) (h:aA)=>(match lW f args h with
   |some r=>some r
   |none=>match Nat.beq f once with
    |true=>vV (fun (f:Nat) (args:List V) (h:aA)=>(match fns f with
     |none=>none
     |some fn=>match Nat.beq args.length fn.nparams with
      |false=>none
      |true=>match exec fns once lW n fn.body (bT 0 args) ⟨h,Ia⟩ with
       |some (.normal,fr,st)=>match eX fr st fn.results with
        |some v=>some (v,st.g)
        |none=>none
       |some (.ret,fr,st)=>match eX fr st fn.results with
        |some v=>some (v,st.g)
        |none=>none
       |_=>none:Option (V×aA))) args h
    |false=>(match fns f with
     |none=>none
     |some fn=>match Nat.beq args.length fn.nparams with
      |false=>none
      |true=>match exec fns once lW n fn.body (bT 0 args) ⟨h,Ia⟩ with
       |some (.normal,fr,st)=>match eX fr st fn.results with
        |some v=>some (v,st.g)
        |none=>none
       |some (.ret,fr,st)=>match eX fr st fn.results with
        |some v=>some (v,st.g)
        |none=>none
       |_=>none:Option (V×aA)):Option (V×aA))):=by
   intro f args hh r h' hr K hK
   dsimp only at hr
   split at hr
   · rename_i r0 h0
     cases hr
     exact ho f args hh r h' h0 K hK
   · split at hr
     · rename_i hb
       have hb:=Nat.eq_of_beq_eq_true hb
       subst hb
       exact onceRun_ok fD dW hr hK
     · exact dW f args hh r h' hr K hK
  simp only [exec] at h
  split at h
  · cases h;exact hq
  · split at h
    · rename_i AL st1 hx
      cases h
      exact kH hrf hx _ hq
    · cases h
  · split at h
    · rename_i AL st1 hx
      rw [Fr.cN] at h
      cases h
      simp only [G9]
      rw [T.wp_bind]
      refine kH hrf hx _ ?_
      simp only [tF]
      rw [Fr.cN]
      exact hq
    · cases h
  · rename_i a b
    split at h
    · rename_i AL st1 hx
      exact ih _ _ _ _ _ _ hx _ (ih _ _ _ _ _ _ h _ hq)
    · rename_i nY
      refine ih _ _ _ _ _ _ h _ ?_
      cases e with
      |normal=>exact (nY _ _ h).elim
      |exit id=>exact hq
      |ret=>exact hq
  · rename_i c a b
    simp only [G9]
    split at h
    · rename_i hb
      rw [hb]
      exact Pd rfl (ih _ _ _ _ _ _ h _ hq)
    · rename_i hb
      rw [hb]
      exact Pe rfl (ih _ _ _ _ _ _ h _ hq)
    · cases h
  · rename_i id b
    split at h
    · rename_i AN AL st1 hx
      split at h
      · rename_i Dz
        have Dz:=Nat.eq_of_beq_eq_true Dz
        cases h
        refine ih _ _ _ _ _ _ hx _ ?_
        simp only [jO,if_pos Dz];exact hq
      · rename_i Dz
        have Dz:=Nat.ne_of_beq_eq_false Dz
        cases h
        refine ih _ _ _ _ _ _ hx _ ?_
        simp only [jO,if_neg Dz];exact hq
    · rename_i nY
      refine ih _ _ _ _ _ _ h _ ?_
      cases e with
      |normal=>exact hq
      |exit id=>exact (nY _ _ _ h).elim
      |ret=>exact hq
  · rename_i b
    intro R hR
    split at h
    · rename_i AL st1 hx
      exact hR _ _ _ (Fr.le_refl _) (ih _ _ _ _ _ _ hx _ (ih _ _ _ _ _ _ h Q hq R hR))
    · rename_i nY
      refine hR _ _ _ (Fr.le_refl _) (ih _ _ _ _ _ _ h _ ?_)
      cases e with
      |normal=>exact (nY _ _ h).elim
      |exit id=>exact hq
      |ret=>exact hq
  · cases h;exact hq
  · cases h;exact hq
  · cases h
inductive FT where
 |nil
 |node (l:FT) (k:Nat) (F:aW) (r:FT)
def FT.get:FT->Nat->Option aW
 |.nil,_=>none
 |.node l k F r,f=>match Nat.beq f k with
  |true=>some F
  |false=>match Nat.ble f k with
   |true=>l.get f
   |false=>r.get f
def FT.ok (P:Program):FT->Bool
 |.nil=>true
 |.node l k F r=>gE P k F&&(l.ok P&&r.ok P)
theorem FT.get_ok {P:Program}:∀ {t:FT},t.ok P=true->bN P t.get
 |.nil,_,f,F,h=>by simp [FT.get] at h
 |.node l k G r,hk,f,F,h=>by
  simp only [FT.ok,Bool.and_eq_true] at hk
  simp only [FT.get] at h
  split at h
  · rename_i hb
    have:=Nat.eq_of_beq_eq_true hb
    subst this
    cases h
    exact hk.1
  · split at h
    · exact FT.get_ok hk.2.1 f F h
    · exact FT.get_ok hk.2.2 f F h
theorem FT.node_ok {P:Program} {l r:FT} {k:Nat} {F:aW} (a:gE P k F=true) (b:l.ok P=true) (c:r.ok P=true):(FT.node l k F r).ok P=true:=by simp [FT.ok,a,b,c]
def Mm (fns:Nat->Option aW) (once:Nat) (lW:mX) (n:Nat) (f:Nat) (args:List V) (h:aA):Option (V×aA):=
 match fns f with
 |none=>none
 |some fn=>match Nat.beq args.length fn.nparams with
  |false=>none
  |true=>match exec fns once lW n fn.body (bT 0 args) ⟨h,Ia⟩ with
   |some (.normal,fr,st)=>match eX fr st fn.results with
    |some v=>some (v,st.g)
    |none=>none
   |some (.ret,fr,st)=>match eX fr st fn.results with
    |some v=>some (v,st.g)
    |none=>none
   |_=>none
theorem runFn_ok {P:Program} {fns:Nat->Option aW} {once:Nat} {lW:mX} (hf:bN P fns) (fD:eD P once) (ho:UH P lW) {n f:Nat} {args:List V} {h:aA} {r:V} {h':aA}
 (hr:Mm fns once lW n f args h=some (r,h')) {K:V->aA->Prop} (hK:K r h'):aB P f args h K:=by
 unfold Mm at hr
 split at hr
 · cases hr
 · rename_i fn FL
   split at hr
   · cases hr
   · rename_i hn
     have hn:=Nat.eq_of_beq_eq_true hn
     split at hr
     · rename_i AL st1 hx
       split at hr
       · rename_i v hv
         cases hr
         exact fn_ok (hf f fn FL) hn (exec_ok hf fD ho _ _ _ _ _ _ _ hx _ (by simp only [wR,hv];exact hK))
       · cases hr
     · rename_i AL st1 hx
       split at hr
       · rename_i v hv
         cases hr
         exact fn_ok (hf f fn FL) hn (exec_ok hf fD ho _ _ _ _ _ _ _ hx _ (by simp only [wR,hv];exact hK))
       · cases hr
     · cases hr
instance VP (n:Nat):OfNat bH n:=⟨.t n⟩
abbrev kI (n:Int):bH:=.c (.i .i64 n)
abbrev kT:bH:=.c (.b true)
abbrev kF:bH:=.c (.b false)
abbrev vI (n:Int):V:=.i .i64 n
abbrev vS:V:=.s []
abbrev oO (d:Nat) (o:y7) (k:List Nat):dC:=⟨some d,o,none,k⟩
abbrev oM (d:Nat) (x:bH) (k:List Nat):dC:=⟨some d,.mv x,none,k⟩
abbrev oA (d:Nat) (x:bH) (k:List Nat):dC:=⟨some d,.L6 x,none,k⟩
abbrev oN (o:y7) (k:List Nat):dC:=⟨none,o,none,k⟩
abbrev oG (d:Nat) (o:y7) (t:Nat) (k:List Nat):dC:=⟨some d,o,some (t,true),k⟩
abbrev rR (l:List dC):AC:=.AK l
abbrev rS (l:List dC) (c:AC):AC:=.seq (.AK l) c
abbrev oL (d s:Nat):dC:=oO d (.load none (.t s)) [s]
abbrev oK (d s:Nat):dC:=oO d (.load none (.t s)) []
abbrev oF (d f s:Nat):dC:=oO d (.s9 f (.t s)) []
abbrev oE (d f s:Nat):dC:=oO d (.s9 f (.t s)) [s]
abbrev oP (d s:Nat):dC:=oM d (.t s) []
abbrev oQ (d s:Nat):dC:=oM d (.t s) [s]
abbrev oB (d s:Nat):dC:=oA d (.t s) [s]
abbrev dq (i:Nat) (o:dC):bB:=⟨i,o,false,[]⟩
abbrev oX (d s i:Nat):dC:=oO d (.ext (.t s) i) []
end Go.Eng
namespace Go.Eng.Dc
open Go Go.Eng
abbrev S (α:Type):=Nat->Nat->Nat->Nat->List Nat->α
abbrev D (α:Type):=S ((α->S aW)->aW)
noncomputable section
variable {α β γ δ ε ζ η:Type}
def pu (a:α):D α:=fun x d g i ts k=>k a x d g i ts
def bd (m:D α) (f:α->D β):D β:=fun x d g i ts k=>m x d g i ts fun a x d g i ts=>f a x d g i ts k
def fc (n:Nat) (k:Nat->α):α:=Nat.rec (motive:=fun _=>α) (k 0) (fun m _=>k m.succ) n
def raw (n:Nat):D Nat:=fun x d g i ts k=>fc (x%n) fun v=>fc (x/n) fun y=>k v y d g i ts
def sy (l:List Nat):D Nat:=fun x d g i ts k=>fc (x%1024) fun r=>fc (x/1024) fun q=>
 List.rec (motive:=fun _=>Nat->Nat->aW) (fun _ j=>k j x d g i ts) (fun c _ ih p j=>Bool.rec (motive:=fun _=>aW) (ih c j.succ) (fc ((c - p)*q+(r - p)) fun x=>k j x d g i ts) (Nat.ble r.succ c)) l 0 0
def nth (l:List α) (z:α):Nat->α:=List.rec (motive:=fun _=>Nat->α) (fun _=>z) (fun a _ ih n=>Nat.rec (motive:=fun _=>α) a (fun m _=>ih m) n) l
def alt (t:List Nat) (z:α) (l:List (D α)):D α:=bd (sy t) (nth l (pu z))
def en (t:List Nat) (z:α) (l:List α):D α:=fun x d g i ts k=>sy t x d g i ts (nth (l.map k) (k z))
def m1 (f:α->β) (a:D α):D β:=bd a fun a=>pu (f a)
def m2 (f:α->β->γ) (a:D α) (b:D β):D γ:=bd a fun a=>m1 (f a) b
def m3 (f:α->β->γ->δ) (a:D α) (b:D β) (c:D γ):D δ:=bd a fun a=>m2 (f a) b c
def m4 (f:α->β->γ->δ->ε) (a:D α) (b:D β) (c:D γ) (d:D δ):D ε:=bd a fun a=>m3 (f a) b c d
def m5 (f:α->β->γ->δ->ε->ζ) (a:D α) (b:D β) (c:D γ) (d:D δ) (e:D ε):D ζ:=bd a fun a=>m4 (f a) b c d e
def num (t:List Nat):D Nat:=bd (sy t) fun n=>Bool.rec (motive:=fun _=>D Nat) (Bool.rec (motive:=fun _=>D Nat) (bd (raw 70) fun k=>fc (2 ^ k) raw) (fc (2 ^ (n - 12)) fun k=>bd (raw k) fun v=>fc (k+v) pu) (Nat.ble n 23)) (fc n pu) (Nat.ble n 15)
def zg (b:Nat) (n:Nat) (k:Nat->α):α:=fc (n/2) fun h=>Nat.rec (motive:=fun _=>α) (fc (b - h) k) (fun _ _=>fc (b+h.succ) k) (n%2)
def many (t:List Nat) (m:D α):D (List α):=bd (num t) fun n=>Nat.rec (motive:=fun _=>D (List α)) (pu []) (fun _ ih=>bd m fun a=>bd ih fun l=>pu (a::l)) n
def opt (t:List Nat) (m:D α):D (Option α):=alt t none [pu none,m1 some m]
def pair (a:D α) (b:D β):D (α×β):=m2 Prod.mk a b
def t0:List Nat:=[887,1024]
def t1:List Nat:=[1008,1024]
def t2:List Nat:=[566,833,868,896,910,914,928,935,956,960,964,964,969,969,969,969,977,988,1002,1002,1003,1010,1010,1011,1024]
def t3:List Nat:=[0,0,69,138,583,583,734,1024]
def t4:List Nat:=[786,807,807,996,1024]
def t5:List Nat:=[146,622,1024]
def t6:List Nat:=[235,318,331,340,346,346,347,347,348,352,352,529,605,853,892,972,1024]
def t7:List Nat:=[0,0,1024]
def t8:List Nat:=[97,97,1024]
def t9:List Nat:=[0,365,450,786,867,869,881,883,885,1022,1022,1024]
def t10:List Nat:=[51,302,348,618,663,698,1006,1007,1008,1021,1024]
def t11:List Nat:=[0,457,784,855,968,996,1010,1010,1010,1010,1010,1010,1010,1010,1010,1010,1010,1010,1010,1010,1024]
def t12:List Nat:=[72,75,484,485,560,564,606,609,643,647,674,677,699,701,712,714,803,891,969,1018,1024]
def t13:List Nat:=[876,948,966,1002,1024]
def t14:List Nat:=[152,453,620,731,796,815,862,881,894,901,907,913,918,922,929,933,1008,1013,1015,1017,1024]
def t15:List Nat:=[58,455,828,944,988,1020,1022,1023,1023,1023,1023,1024]
def t16:List Nat:=[663,1024]
def t17:List Nat:=[688,1024]
def t18:List Nat:=[871,1024]
def t19:List Nat:=[268,392,429,447,462,475,484,606,641,659,752,753,757,771,772,772,773,774,775,776,777,778,779,781,876,877,900,902,903,904,905,906,922,987,990,991,1014,1014,1014,1016,1020,1021,1022,1023,1024]
def t20:List Nat:=[0,93,372,1024]
def t21:List Nat:=[36,38,779,782,808,811,823,829,843,849,853,859,864,868,872,875,926,972,1006,1022,1024]
def t22:List Nat:=[0,0,958,958,958,958,958,958,958,958,958,958,965,965,972,972,1017,1024]
def t23:List Nat:=[870,931,984,1005,1024]
def t24:List Nat:=[184,186,285,287,348,350,405,407,458,459,500,501,541,542,576,577,792,905,971,1023,1024]
def t25:List Nat:=[437,963,964,984,1024]
def t26:List Nat:=[0,512,684,747,750,795,820,829,836,853,874,885,908,921,926,941,1010,1023,1024]
def t27:List Nat:=[41,948,949,981,984,989,993,995,996,997,998,998,1000,1001,1002,1002,1015,1023,1024]
def t28:List Nat:=[895,1024]
def t29:List Nat:=[980,1017,1022,1023,1024]
def t30:List Nat:=[66,381,397,783,853,903,927,952,1024]
def t31:List Nat:=[0,259,482,636,748,804,852,875,900,921,941,954,960,965,972,979,1016,1023,1024]
def t32:List Nat:=[400,762,862,959,985,1011,1019,1024]
def t33:List Nat:=[702,755,944,949,1002,1007,1024]
def t34:List Nat:=[876,1024]
def t35:List Nat:=[107,910,1024]
def t36:List Nat:=[0,726,856,920,964,1015,1015,1015,1015,1015,1015,1015,1015,1015,1015,1015,1015,1019,1019,1020,1024]
def t37:List Nat:=[1024]
def bool:D Bool:=en t0 false [false,true]
def int:D Int:=bd (sy t1) fun s=>bd (num t2) fun n=>Nat.rec (motive:=fun _=>D Int) (pu n) (fun _ _=>pu (-n)) s
def kd:D IntKind:=en t3 .i8 [.i8,.i16,.i32,.i64,.u8,.u16,.u32,.u64]
def sm:D kL:=en t4 .fz [.im false,.im true,.mu false,.mu true,.fz]
def ck:D CK:=en t5 .b [.b,.i,.s]
def bop:D BinOp:=en t6 .add [.add,.sub,.mul,.quo,.rem,.and,.or,.xor,.shl,.shr,.andNot,.eql,.neq,.lss,.leq,.gtr,.geq]
def uop:D UnOp:=en t7 .neg [.neg,.xor,.not,.plus]
def u8:D UInt8:=m1 UInt8.ofNat (raw 256)
def rep (n:Nat) (a:V):List V->D (List V):=Nat.rec (motive:=fun _=>List V->D (List V)) pu (fun _ ih l=>ih (a::l)) n
def runs (m:D V):D (List V):=alt t8 [] [pu [],bd (num t37) fun n=>m1 (List.replicate n) m,bd (num t9) fun n=>Nat.rec (motive:=fun _=>D (List V)) (pu []) (fun _ ih=>bd (num t36) fun k=>bd m fun a=>bd ih (rep k a)) n]
def fid:D Nat:=raw 512
def vl:Nat->D V:=Nat.rec (pu .fK) fun _ ih=>alt t10 .fK [m1 .b bool,m1 (.i .i64) int,m2 .i kd int,pu (.s []),m1 .s (many t11 u8),pu .kE,pu .aV,pu .gC,pu .kG,m3 .fn fid (runs ih) (runs ih),m1 .agg (runs ih),m1 .bY (runs ih),pu .fK]
def v:D V:=vl 9
def vs:D (List V):=runs v
def snoc (l:List Nat) (t:Nat):(List Nat->aW)->aW:=List.rec (motive:=fun _=>(List Nat->aW)->aW) (fun k=>k [t]) (fun a _ ih k=>ih fun l=>k (a::l)) l
def tm:D Nat:=fun x d g i ts k=>num t12 x d g i ts fun n x d g i ts=>zg d n fun t=>snoc ts t (k t x d g i)
def o:D bH:=alt t13 (.t 0) [m1 .t tm,m1 kI int,pu (.c (.b true)),pu (.c (.b false)),m1 .c v]
def sn:D Nat:=num t14
def os:D (List bH):=many t15 o
def oo:D (Option bH):=opt t16 o
def on:D (Option Nat):=opt t17 sn
def ok:D (Option IntKind):=opt t18 kd
def aop:D y7:=alt t19 .no [m1 .mv o,m1 .L6 o,m3 .pick o o o,m2 .alloc bool vs,m2 .box bool o,m2 .Sa vs (many t15 (pair sn (pair sn o))),m5 .Sb sm sn sn vs (many t15 (pair sn o)),m2 .load on o,m3 .store sn o o,m1 .CX o,m3 .bin bop o o,m5 .SB bool (many t20 ck) bool o o,m3 .XA bool o o,m2 .un uop o,m2 .SC kd o,m1 .SD o,m2 .Sc sm o,m1 .SE o,m1 .Ng o,m2 .GB fid os,m2 .CY bool ok,bd sm fun a=>m5 (.Km a) sn sn vs o o,m3 .y8 o oo oo,m5 .wM sn o oo oo oo,m2 .s9 sn o,m3 .OM sn on o,m3 .E7 sn o o,m4 .GC sn sn o o,m2 .SF o o,m5 .O6 sn sn on o o,m5 .Sd ok v o o bool,m4 .Kn ok o o o,m2 .ext o sn,m2 .call fid os,m2 .wY o os,m1 .GD o,m1 .E8 o,m1 .GF sn,m1 .GG o,m2 .AO bool os,m5 .append sm sn sn o o,m3 .copy sn o o,m3 .delete ok o o,m3 .clear sn vs o,pu .no]
def dst:D (Option Nat):=fun x d g i ts k=>num t21 x d g i [] fun n x d g i ts=>Nat.rec (motive:=fun _=>aW) (k none x d g i ts) (fun m _=>zg d m fun t=>k (some t) x t g i ts) n
def gr (b:Bool):D (Option (Nat×Bool)):=fun x d g i ts k=>k (some (g,b)) x d g i ts
def gn (b:Bool):D (Option (Nat×Bool)):=fun x d g i ts k=>num t22 x d g i ts fun n x d g i ts=>zg d n fun t=>k (some (t,b)) x d t i ts
def gd:D (Option (Nat×Bool)):=alt t23 none [pu none,gr true,gr false,gn true,gn false]
def rg:D Nat:=fun x d g i ts k=>num t24 x d g i ts fun n x d g i ts=>zg d n fun t=>k t x d g i ts
def kl:D (List Nat):=alt t25 [] [pu [],fun x d g i ts k=>k ts x d g i ts,fun x d g i ts k=>List.rec (motive:=fun _=>aW) (k [] x d g i ts) (fun a _ _=>k [a] x d g i ts) ts,fun x d g i ts k=>List.rec (motive:=fun _=>aW) (k [] x d g i ts) (fun _ r _=>k r x d g i ts) ts,many t26 rg]
def oper:D dC:=m4 dC.mk dst aop gd kl
def ix:D Nat:=fun x d g i ts k=>num t27 x d g i ts fun n x d g i ts=>zg i n fun t=>k t x d g t ts
def dop:D bB:=m4 bB.mk ix oper (en t28 false [false,true]) (many t29 sn)
def ac:D AC:=Nat.rec (motive:=fun _=>D AC) (pu .no) (fun _ ih=>alt t30 .no [pu .skip,m1 .AK (many t31 oper),m2 .tD (many t31 dop) (many t26 rg),m2 .seq ih ih,m3 .cond o ih ih,m2 .bL (num t32) ih,m1 .loop ih,m1 .exit (num t33),pu .ret,pu .no]) 1000
def rv:D RV:=alt t34 (.t 0) [m1 .t sn,m2 .cell sn on]
def fn:D aW:=m3 aW.mk sn ac (many t35 rv)
end
end Go.Eng.Dc
namespace Go.Eng
noncomputable def dcF (x:Nat):aW:=Dc.fn x 0 0 0 [] fun a _ _ _ _ _=>a
def Dn (_ _:aW):Prop:=True
theorem Dn.of (a:aW):Dn a a:=trivial
abbrev bE (N:Nat) {a:aW} (_:Dn (dcF N) a:=by (conv=>arg 1;whnf);dsimp only [Nat.reduceSucc,Int.cast_ofNat_Int,UInt8.reduceOfNat];exact Dn.of _):aW:=a
end Go.Eng
namespace Go.Eng.AF
open Go Go.Eng
def f316:aW:=bE 0x5dda0c1bd0ac3c826c07c72dacc28c72e7048f2d12a7b32a4e5e6065058d3b3db564d188df188bdb2101fa2bd6dd44c36bb9b6b22ca6a8c70f7896abf5977f1d0cde12d9d059ee879d6
def f318:aW:=bE 0x975f8cdaf8b6d7920fcac2fb756ddb0df737ba2a11907
def f321:aW:=bE 0x3349a2fd8fde01140b791cfa64d51ae5582e13c14d71c98df4182327a8e8336d19a507bf5f1ab39ae4a1381929abc5828108516bbccbbe596532b50421bed3b25465e00940a02cc8c18f9644db4183712f8191af33132878b31c4bfb4c2b22ca156004cb44d96be38dc2c529e20be8216fd620bc6a6be5c4c95831b669115ce3e715c50dcb312f182d4e9e63
def f322:aW:=bE 0x7eeaf81bdd676d3c0cb125c2704d883ea76387d18f7c25b86651be1487e144fc9baf2d95a39ff77186d990eb3e0f9ec7a85ee5f6a5b9e9f8480fc841e619d76a2d05e27b0eeaa9115999774a3074a1e36
def f323:aW:=bE 0x75d3142614eb6b65b951142a1db9a5a874984824c2290e500869d4ed8b05b6d9413238da3d3315e6b19b0634f96bffd88f0ff235823e7c8bdf1ca4a03ddb7cc5b654029c95f4d268981a2e6af008ac9995414716bc750b080bb236417e0f26204c773750a02dfca3cdb37fd73ea03f53714bc4bd1dcf04eb4044ce9a271d31c94c820d9f60d70eb1dfcf1a5e3c7fb0e089f6818ece8528203fb69d2509c74b6febf8295697c9eaefd1a3d71bd7a83a85772bbbc13fa320335d0971849d34727bfaf7724d96d8108e8e6e3d7cb93ad608cbc7240613511bfc465054ec992d65fa3d7e4edc409773bf70e03cdb78025543d754e5d29d480db31db45b5fe18d11ca6492eda1a8af1f68edb515225a4e806da7f93e27acf7b8834d64adbe04f4d59c77219ce7ca6
def f324:aW:=bE 0x58613df1706032704146e345d571f6b1f44b0188dae941c1a5a9fdc507638b54a3d0b599df0ff3d000331903bfd20a40d8a7715c671762bf299a4bd758700291c4d358f8531b190883f76b3d27998ea5970e3715fd3e948aa5f436ebbd9fb3a991aeaa4968816a94ffb458b88574de2f49c664f016f687ee12c7cbc169342160c806696cfab8fc8c208ca02defb33024d5dad15c5c5003632d675c85c35c78da7eca2031938a44b4949a224351d0419255f25d0db1c9423747b024e7b128854e0e770bc3923668458d9524c96821d4915d6d256e749cdd61e0020350521fb7019d390bc7e77e167b21170bb59ad
def f325:aW:=bE 0x59173d13a6365d68893d41075aa24a62ffa7af61375923ccabb6f068fec291fd577d1366acc09d7b4faa0099682db36180c917ce7ea362447d52f19db18af120f3a781e565d086a019026d9f502c6daa537931fb0b38920146c3cbc653e54c5d8b6eaf3b3fc301295de4fef428329576ab72fdb76d878696c7e5aa7b632a04985647b7d03ded68b47026b1cbe5bfe4142871be1bbb1755388de4a839cef70dd186b1ed57670adfd33d49ebc303dff5a2de22fe63de53ab03102a5cdbb2afaf5bec6372ffb35ce41160c1b0bc1a05180cb0a86adf50b4695e7
def f326:aW:=bE 0x25b12db11d43c83b1634607cb1b9deb841d1d75bf818ac377b111cb7bec5c12acc5099429412b7c35da52c3fa589650cf0b303ff3ed54b2a372e7d075db7626a9833c5fc8bd6d961feefb44d87cdf3e2aa7f359aa39418e6e00b8361d0ec3a42329758ea609ea974a92d21ff3fa28e1c016f6491ec2daf19b3ff31946caf740b331c81f7409362e60fc79af92d303dcfd90edc089111bb37bf3a1527fee9455162dd62851a5d2e109469a6393572c804a07a20f3b1c7913791a87e090b09c0fe4661bbe4a24b280a7dcd6f05ebd75d0be09f756213cb304a72aadf1946a7e8b2a8a38d1bdf17479eece2336563d95c077def36657253a3eff4c829341fb9b071d62877656b70baa298f2ab43a2bddbeb518d038f339103622d99d84361cbd4b65b7982166b5570a90d0
def f327:aW:=bE 0x3105ae6d86aa2ab5f3a695652e7b659abf2364b321de51580401b2dad112b95c58222cd2086aa7fabc65bdefb6c86e33f0de3c2c8c9ba99c5a5e369161de2e6afc71b7a7654cf21add3829d72603ffbec8bcad4221dd536c7f71662f3a2efc1da3c1de3bd4e7b3f9bfaca0c9fafb71bfd3765205ee3ad459f7826505a802081aecfef28d26232a48a5de72015126e69e4bab13a5e82bf8b355d659a926e9b75ce58f9f9d9dec393423ee47717c9c91fa062eeedf54046bd268efddc0f8d4ef78af668db482dfa856714745b994198474d785812869f5570884a353603d5faf5dfc269086a06f795eb7fdb00554c8b3230a5364a600eb7786b43a8b7bf21a343d1f53ca78fee2499d3dbc4fd
def f328:aW:=bE 0x34c376b28e2a4a841edd41d
def f329:aW:=bE 0x10cf701a0aa5eda9fa6a8a6bf6bbac23fb5c54446a3e7a6e74d8bb31200f48cafea79f19ff5b15d780aff15c5011a76fd841b8cf3df331d9a15c7bb895127a683a4f53e8eb17edd775ac6dcb07fa0efad095039b96dd3a53a71bb45bd219eb7083e3a241e2220ddfad11ce86eae3aa154455b3ab375fe27
def f330:aW:=bE 0x1865c60f39983e43edcdfe7874677a8a1e3a3e114d96e9780114c9d893f984955197b95ba1aecbe8b7490a9e0dbde69c81161cc6e6aef52df306860bf4d26bc8d4ac57f222186b756d9ed92a086bf4d45b0426d36bd9964c7ad51a4b8df3b91bead01daf3d71b8219c630f4b73b8a8f9c21c39909fac962e0c05c9
def f331:aW:=bE 0x4130a2c9e4e606695b854fd85b70107a2b6f60d0a903b5886cc4466409992dd7b15d155cf3b78775e3234cb97fab2f1547a27
def f332:aW:=bE 0xbb00fe369a82105b20ec7a14b618ce56df353c3430a4dbfb06dc389fcebf0b9e0b02647ac3b808298a1072c4f3d03d16ddff
def f333:aW:=bE 0xbb00fe369a82105b20ec7a14b618ce56df353c3430a4dbfb06dc389fcebf0b9e0b02647ac3b808298a1072c4f3d03d16ddff
def f336:aW:=bE 0x709d6a7ff206912a7143f1b6b0617e64
def f337:aW:=bE 0x8057137e21c3eec5c662a750ef
def f342:aW:=bE 0xb0c3d8b69b53006c50132e4d5
def f343:aW:=bE 0x196657fc06f14cdc2c0620e9e91ce63cd512c38873638ad0feb8796b44d0756d467eb4963d8cf25bcfd9e09dc3ae4b7a219d217159b86fe986046bcd502ace70652a1d4204510bcf7f1d
def f347:aW:=bE 0x26bbcd1e48291d83de8a8d6d2c0f5b5349a03784faa2a7b868fc433d25168efa4bdd1106e706c87716b6fa1b3c8a825d576223babd703e44c895665dd9e96785c6e9c4434e2ea1fc5aacf01970497a195e5850340c3b9106f8015973cced
def f348:aW:=bE 0x29ab86fb0ed808204a28bc78eff382839eee2a9c5ede0f2ca0439e91e9bff61867cbfc05387204ee6517a7360d90ec6880820385e2717fa3a148c4d7b36f9f3e5a428e480881378f6545857fe2b27db66a4f0b50166e563b881cbe097096713d834c8bf27c1f6f6e7e35b6ad73e42751d7cbd94542724befa8a94cdc9a2ae5e8de905ab6bb16ea5f1d2f879fa677e2c7450e93b4264ab494059cb036d011b8f7b16b9043ad65d70ddefae48db
def f349:aW:=bE 0x18703705a6bc28e8d9574ff4ea9e7cc64075ce71adf7b104d657d1b44025ca4f200
def f350:aW:=bE 0x3daa501cbcb74f8b9b5b6e03c341060772e0aa2b4b5067140c7a459a4825eabc0982581ece291aa04e7943ceddb8465c
def f351:aW:=bE 0x393ed6a00e376b393495cec2b6ae05434dd1ad0d2f17fdff2bc5e1abd729d475b13adc45a14311b776a29e2109cf25742426a884e88b76c824acdf283425062ffdd332f8bc3713a269317af1e90fda388d5dd69e8cf93ede933ac1b47982ac355e4388ec39692e3c23c6a5a65653af6b65cb7c84d18f4cb93775c7028c87ef76f8ec0462c4f7252ae0909a21213537c23c84b3d8d77f5113fc042aaf2a7c88fe5112faa184ca35a1bc8b2996578e5f1028ccc2f8233c3dd5c28345f24d83
def f352:aW:=bE 0x4c53cefc90f75ee53e34383e1bc06eebfeb580ae1739b08c4c9dbf05c202771c921bda757be2596b2ab88cab9193033e7fcf3d54c9e4fcf9bb81eeaa02482bf1d9512a1cabf4080e47d5b2380b03b1bcdb597023bddc580d076e949c79e3b9391f5798587d7705a868f524e44944755d0e1e3fe7464eac665b1f62a6a5152c768816f91ce1e2ee28a94011a870f95063bdd9737b4562a6899350796d45ed480fec7b51e7d53aa911b8ec80af2be731129a7de5fde7adffd7d08f958c4283cdbfe977bf8d447788756e576b290ba2197061ebf655cd7a7dfbbfc06ecbbd205c94a1cfff50d65889d047b49e0db848ff42e46324e3c017c6de70129c9cba00c3088d3e515d54a46841b74840cc40e9ae28a274b965646460150689e0fd9a449ba89ee82c
def f353:aW:=bE 0x155a6d1e2969dee7cbb2d2fafef47c52aa4c55a5d249f86dc26db0da1ccb0abfa99b748ead0cea822d32941fa756c952f48ba3052945319f0e946ca36afc8c571415c75f224860e24517ccb24a
def f354:aW:=bE 0x160a7eaf64a2f8072ea59125d46b8d712782e0b88934ca34df7d6e0983d8bb22adf4a9cdcc04e89a2d4bd29844373e35e0471399a8814fd95047127ffd979652d57fb6fc6ba9b7f4350cfc987c679f36802174a2eada256b6faaca
def f356:aW:=bE 0x24e6a36cbb72f2c328ff4f5967642b3aa3bdfd7bc3e837ae7f6f9c898dc9d6fdace802c47f923887f522c63be4cd6508de201447482f3aac0ced4ae9c8f87df2cf8f30c2b4b365f1cf57e7aa24a03cd0aaab8d27ba16b771b56d8
def f357:aW:=bE 0xc26fa89bd3edcbba043584f298e673c10360f4eb95f6f59de8b478cc575195c33772980ef1645c167e2ff5072d227
def f358:aW:=bE 0x2ecfffd7d0118d77122d1ebfb580884a7d9c9fc65dea20b8d89fa44a7accddc0d1f4dbb45bbb2f5db4e6a4e7b4d0aca9bf547c508576fd3b926af73982aab8868dee52b42ec0441d057950748c72cb0b0b56ca0ed4313cd87b714366af
def f366:aW:=bE 0x6bf03c9934be1e6db217a9ae485ad6cc63bf6671652112276ad74630dbb719ce0a71c45bcb193148c2869049069d69174667e736851fdc3d898e0e2491057afd35d06e748830bd7d3fbcac6c220b04ea1623e84edeeca4c186f84028e1719f0dda7
def f370:aW:=bE 0x709d6a7ff206912a67bbf7c53ea56a00
def f371:aW:=bE 0x4e395607b37523837330ce33bcd1bdf1653f4b455928
def f372:aW:=bE 0xb2d886b3d1e912ed31c6842dac42239705ce6e9c306dc15f0a2d8c06ad546f3a6be047e77e5d23f8b7ffcabe1a28cbef35c27080d0a8067d567bec1
def f373:aW:=bE 0x709d6a7ff20691329cdf74960fe9d5ce
def f375:aW:=bE 0x1a131b921b601034cf3adcb19551cd6e17652ec6bc3c2c33fef616ffa3678e0dd4b7b68e22b19d9cd9f8f1dbc6c7634dde1994d1ad27232b55e831ffe1e4053c2cea2a6ef2244de498525a53797966cb6ceafdd2e855335eac7725b0ec46b9687d33
end Go.Eng.AF
namespace Go.Eng
open Go
def V.flat:V->Bool
 |.b _=>true
 |.i _ _=>true
 |.s _=>true
 |.kE=>true
 |.aV=>true
 |.gC=>true
 |.kG=>true
 |.sl none _ _=>true
 |_=>false
def V.pB:V->Bool
 |.agg cs=>cs.all V.flat
 |.fn _ a c=>a.all V.flat&&c.all V.flat
 |v=>v.flat
def V.free:V->Bool
 |.bY cs=>cs.all V.pB
 |v=>v.pB
def tC (I J:zA):Prop:=∀ b o x,I b o=some x->J b o=some x
theorem mY {E F:Env} (h:tC E.I F.I) {v:V} {x:Value} (hv:v.flat=true) (hr:Rel E v x):Rel F v x:=by
 cases v<;>simp [V.flat] at hv
 case b=>cases hr with|deep hd=>exact .deep (hd.mono h)
 case i=>cases hr with|deep hd=>exact .deep (hd.mono h)
 case s=>cases hr with|deep hd=>exact .deep (hd.mono h)
 case kE=>cases hr with
  |deep hd=>exact .deep (hd.mono h)
  |kE=>exact .kE
 case aV=>cases hr with|deep hd=>exact .deep (hd.mono h)
 case gC=>cases hr with
  |deep hd=>exact .deep (hd.mono h)
  |gC=>exact .gC
 case kG=>cases hr with
  |deep hd=>exact .deep (hd.mono h)
  |kG=>exact .kG
 case sl tok sz es=>
  cases tok with
  |none=>cases hr with|deep hd=>exact .deep (hd.mono h)
  |some k=>simp at hv
theorem FV {E F:Env} (h:tC E.I F.I) {v:V} {x:Value} (hv:v.pB=true) (hr:Rel E v x):Rel F v x:=by
 cases v
 case agg cs=>
  simp only [V.pB,List.all_eq_true] at hv
  cases hr with
  |deep hd=>cases hd
  |agg _ a ha h1 HY=>exact .agg _ _ ha h1 fun j v x hj hx=>mY h (hv v (List.mem_of_getElem? hj)) (HY j v x hj hx)
 case fn f a c=>
  simp only [V.pB,Bool.and_eq_true,List.all_eq_true] at hv
  cases hr with
  |deep hd=>cases hd
  |fn _ _ _ a' c' ha hc HY O8=>exact .fn _ _ _ _ _ ha hc (fun j v x hj hx=>mY h (hv.1 v (List.mem_of_getElem? hj)) (HY j v x hj hx)) (fun j v x hj hx=>mY h (hv.2 v (List.mem_of_getElem? hj)) (O8 j v x hj hx))
 all_goals exact mY h hv hr
theorem uG {E F:Env} (h:tC E.I F.I) {v:V} {x:Value} (hv:v.free=true) (hr:Rel E v x):Rel F v x:=by
 cases v
 case bY cs=>
  simp only [V.free,List.all_eq_true] at hv
  cases hr with
  |deep hd=>cases hd
  |bY _ a ha HY=>exact .bY _ _ ha fun j v x hj hx=>FV h (hv v (List.mem_of_getElem? hj)) (HY j v x hj hx)
 all_goals exact FV h hv hr
def gZ:aA:=⟨0,[]⟩
theorem cB {k:Key}:¬(dG gZ).live k:=by
 rintro ⟨o,ho⟩
 cases k with
 |g n=>simp [St.get,gZ,aA.get,aA.find] at ho
 |l n=>simp [St.get,Ia,aA.get,aA.find] at ho
theorem aB.frame {P:Program} {f:Nat} {args:List V} {K0:V->aA->Prop} (h0:aB P f args gZ K0) (ha:args.all V.free=true) {h:aA} {K:V->aA->Prop}
 (hK:∀ v h',K0 v h'->v.free=true/\K v h):aB P f args h K:=by
 refine ⟨h0.1,fun E w vs rX hs hv=>?_⟩
 simp only [List.all_eq_true] at ha
 let E0:Env:={ I:=E.I,μ:=E.μ,ng:=0,nl:=0 }
 have OX:b9 E0 (dG gZ) w:=⟨rfl,rfl,fun k hk=>absurd hk cB,hs.jL,fun k o hk=>absurd ⟨o,hk⟩ cB,fun k k' hk=>absurd hk cB,fun k hk=>absurd hk cB⟩
 have Mv:eI E0 args vs:=⟨hv.1,fun j v x hj hx=>uG (E:=E) (F:=E0) (fun b o x h=>h) (ha v (List.mem_of_getElem? hj)) (hv.2 j v x hj hx)⟩
 refine (h0.2 E0 w vs rfl OX Mv).mono ?_
 rintro e w' ⟨v,x,h',E',hk,rfl,hn,yX,he,hr⟩
 obtain ⟨Mw,yY⟩:=hK v h' hk
 have C1:tC E.I E'.I:=he.le.jL
 have j6:∀ k,(dG h).live k->w'.heap[(E.μ k).bL]? =w.heap[(E.μ k).bL]? :=fun k hk=>he.same _ (hs.lt hk) fun k0 Lh=>absurd Lh cB
 have hle:E.Le { E with I:=E'.I }:=⟨C1,Nat.le_refl _,Nat.le_refl _,fun _ _=>rfl⟩
 refine ⟨v,x,h,{ E with I:=E'.I },yY,rfl,rX,⟨hs.ng,hs.nl,fun k hk=>hs.jM k hk,yX.jL,fun k o hk=>?_,fun k k' hk hZ dM=>hs.sep k k' hk hZ dM,fun k hk j h1 h2=>?_⟩,
  ⟨hle,he.size,fun b o x hx=>?_,fun k hk _=>hk,fun k hk hn=>absurd (hs.jM k hk) hn,fun b hb _=>he.same b hb fun k hk=>absurd hk cB,he.os,he.out,he.tape⟩,uG (E:=E') (F:={ E with I:=E'.I }) (fun b o x h=>h) Mw hr⟩
 · exact (hs.obj k o hk).eK (Env.iJ hle k) (j6 k ⟨o,hk⟩)
 · show E'.I (E.μ k).bL j=none
   cases hx:E'.I (E.μ k).bL j with
   |none=>rfl
   |some y=>
    rcases he.fF _ _ _ hx with h3|h3|⟨k0,h3,_⟩
    · have:=hs.own k hk j h1 h2
      rw [show E0.I=E.I from rfl,this] at h3
      cases h3
    · have:=hs.lt hk
      omega
    · exact absurd h3 cB
 · rcases he.fF b o x hx with h1|h1|⟨k0,h1,_⟩
   · exact .inl h1
   · exact .inr (.inl h1)
   · exact absurd h1 cB
open Go
structure Ren where
 g:Nat->Nat
 l:Nat->Nat
def Ren.key (ρ:Ren):Key->Key
 |.g n=>.g (ρ.g n)
 |.l n=>.l (ρ.l n)
def V.gV (ρ:Ren):V->V
 |.p k off=>.p (ρ.key k) off
 |.pa k sz ix off=>.pa (ρ.key k) sz ix off
 |.sl (some k) sz es=>.sl (some (ρ.key k)) sz es
 |.ms k sz st len=>.ms (ρ.key k) sz st len
 |.m k=>.m (ρ.key k)
 |v=>v
structure pT where
 g:Nat
 l:Nat
def pT.has (b:pT):Key->Prop
 |.g n=>n<b.g
 |.l n=>n<b.l
def V.bd0 (b:pT):V->Prop
 |.p k _=>b.has k
 |.pa k _ _ _=>b.has k
 |.sl (some k) _ _=>b.has k
 |.ms k _ _ _=>b.has k
 |.m k=>b.has k
 |.agg _=>False
 |.bY _=>False
 |.fn _ _ _=>False
 |_=>True
def Env.A6 (E:Env) (ρ:Ren) (b:pT):Env:=⟨E.I,fun k=>E.μ (ρ.key k),b.g,b.l⟩
theorem Env.z8 {E:Env} {ρ:Ren} {b:pT} {k:Key} (h:b.has k):(E.A6 ρ b).has k:=by cases k<;>exact h
theorem QH {E:Env} {ρ:Ren} {b:pT} {v:V} {x:Value} (hb:v.bd0 b) (h:Rel E (v.gV ρ) x):Rel (E.A6 ρ b) v x:=by
 cases v
 case b=>cases h with|deep hd=>exact .deep hd
 case i=>cases h with|deep hd=>exact .deep hd
 case s=>cases h with|deep hd=>exact .deep hd
 case kE=>cases h with
  |deep hd=>exact .deep hd
  |kE=>exact .kE
 case p k off=>cases h with
  |deep hd=>cases hd
  |p _ _ hk=>exact .p (E:=E.A6 ρ b) k off (Env.z8 hb)
 case pa k sz ix off=>cases h with
  |deep hd=>cases hd
  |pa _ _ _ _ hk=>exact .pa (E:=E.A6 ρ b) k sz ix off (Env.z8 hb)
 case pc cs off=>cases h with
  |deep hd=>cases hd
  |pc _ _ bL o val hv hr=>exact .pc cs off bL o val hv hr
 case aV=>cases h with|deep hd=>exact .deep hd
 case sl tok sz es=>
  cases tok with
  |none=>cases h with|deep hd=>exact .deep hd
  |some k=>cases h with
   |deep hd=>cases hd
   |EW _ _ _ a cap hk hd GN hs=>exact .EW (E:=E.A6 ρ b) k sz es a cap (Env.z8 hb) hd GN hs
 case ms k sz st len=>cases h with
  |deep hd=>cases hd
  |ms _ _ _ _ a cap hk hc hf GN ha=>exact .ms (E:=E.A6 ρ b) k sz st len a cap (Env.z8 hb) hc hf GN ha
 case gC=>cases h with
  |deep hd=>exact .deep hd
  |gC=>exact .gC
 case m k=>cases h with
  |deep hd=>cases hd
  |m _ hk=>exact .m (E:=E.A6 ρ b) k (Env.z8 hb)
 case fn=>exact hb.elim
 case kG=>cases h with
  |deep hd=>exact .deep hd
  |kG=>exact .kG
 case agg=>exact hb.elim
 case bY=>exact hb.elim
 case fK=>exact .fK x
def St.lim (st:St):pT:=⟨st.g.next,st.l.next⟩
def Key.lim (b:pT):Key->pT
 |.g _=>⟨b.g,0⟩
 |.l _=>b
end Go.Eng
