/-
Code and functions: what the abstract run promises.
-/
import Derived.Test.YtdjbjnnfmkoceaaGreatX04
set_option linter.unusedVariables false
set_option linter.unusedSimpArgs false
namespace Go.Eng
open Go
def mJ (K:Fr->St->Prop) (Q:Ex->Fr->St->Prop):Ex->Fr->St->Prop
 |.normal,fr,st=>K fr st
 |.exit id,fr,st=>Q (.exit id) fr st
 |.ret,fr,st=>Q .ret fr st
def gA (id:Nat) (Q:Ex->Fr->St->Prop):Ex->Fr->St->Prop
 |.exit Ad,fr,st=>if Ad=id then Q .normal fr st else Q (.exit Ad) fr st
 |.normal,fr,st=>Q .normal fr st
 |.ret,fr,st=>Q .ret fr st
def jN (Q:Ex->Fr->St->Prop):Fr×St->Prop
 |(fr,st)=>Q .normal fr st
def qS (kill:List Nat):Fr×St->T (Fr×St)
 |(fr,st)=>fr.cut kill fun fr=>.ret (fr,st)
def Fr.le (f g:Fr):Prop:=∀ t,f.get t=g.get t\/f.get t=.a8
theorem Fr.le_refl (f:Fr):Fr.le f f:=fun _=>.inl rfl
theorem Fr.le_nil {g:Fr}:Fr.le [] g:=fun _=>.inr rfl
theorem Fr.OT {n:Nat} {v:V} {r g:Fr} (h:g.get n=v) (hr:Fr.le r g):Fr.le ((n,v)::r) g:=by
 intro t
 simp only [Fr.get]
 split
 · rename_i hn;subst hn;exact .inl h.symm
 · exact hr t
theorem aJ.le {E:Env} {N:Nat} {f g:Fr} {a:Act} (h:aJ E N g a) (hl:Fr.le f g):aJ E N f a:=by
 refine ⟨h.size,fun t=>?_⟩
 rcases hl t with h1|h1
 · rw [h1];exact h.rel t
 · rw [h1];exact .a8 _
def pT (A:aX):AC->(Ex->Fr->St->Prop)->Fr->St->Prop
 |.skip,Q,fr,st=>Q .normal fr st
 |.Gb ops,Q,fr,st=>(cM ops fr st).wp A (jN Q)
 |.vD ds kill,Q,fr,st=>((eN [] ds fr st).bind (qS kill)).wp A (jN Q)
 |.seq a b,Q,fr,st=>pT A a (mJ (pT A b Q) Q) fr st
 |.cond c a b,Q,fr,st=>match c.ev fr with
  |.b x=>Ur x (pT A a Q fr st) (pT A b Q fr st)
  |_=>False
 |.aW id b,Q,fr,st=>pT A b (gA id Q) fr st
 |.loop b,Q,fr,st=>∀ R:Fr->St->Prop,(∀ fr bH st,Fr.le bH fr->pT A b (mJ R Q) bH st->R fr st)->R fr st
 |.exit id,Q,fr,st=>Q (.exit id) fr st
 |.ret,Q,fr,st=>Q .ret fr st
 |.no,_,_,_=>False
def pU (P:Program) (N:Nat):Code->AC->Bool
 |.skip,.skip=>true
 |.label _,.skip=>true
 |.region _ ops draw,.Gb aeN=>!draw&&p5 P N ops ops.toList aeN
 |.region _ ops draw,.vD ds _=>draw&&(tH P N ops ds||J5 P N ops ds)
 |.seq a b,.seq A B=>pU P N a A&&pU P N b B
 |.cond c a b,.cond d A B=>b9 c d&&pU P N a A&&pU P N b B
 |.block id b,.aW Ad B=>decide (id=Ad)&&pU P N b B
 |.loop b,.loop B=>pU P N b B
 |.exit id,.exit Ad=>decide (id=Ad)
 |.ret,.ret=>true
 |_,.no=>true
 |_,_=>false
section
variable {P:Program} {N:Nat} {E0:Env} {st0:St} {w0:World}
structure BH (N:Nat) (E0:Env) (st0:St) (w0:World) (K:Fr->St->Prop) (a:Act) (w:World):Prop where
 ex:∃ fr st E,K fr st/\bC E st w/\Ext E0 st0 w0 E st w/\aJ E N fr a/\a.defers=[]
def kG (N:Nat) (E0:Env) (st0:St) (w0:World) (Q:Ex->Fr->St->Prop):Exit->Act->World->Prop
 |.normal,a,w=>BH N E0 st0 w0 (Q .normal) a w
 |.exit id,a,w=>BH N E0 st0 w0 (Q (.exit id)) a w
 |.ret,a,w=>BH N E0 st0 w0 (Q .ret) a w
 |_,_,_=>False
def eS (P:Program) (c:Code) (Qm:Exit->Act->World->Prop) (a:Act) (w:World):Prop:=
 ∀ (b:Frame) (k:List Item) (cs:List Frame),∃ e a' w',Qm e a' w'/\Arrives P (lone (b.at a (.code c::.inLoop c::k)) cs w) b k cs e a' w'
theorem eS.loop {c:Code} {Qm:Exit->Act->World->Prop} {a:Act} {w:World} (h:eS P c Qm a w):(Code.loop c).wp P Qm a w:=
 fun b k cs=>let ⟨e,a',w',hq,BI⟩:=h b k cs;⟨e,a',w',hq,.of_steps (.one step_loop) BI⟩
theorem eS.round {c:Code} {Q:Ex->Fr->St->Prop} {R:Fr->St->Prop} {a:Act} {w:World} (h:c.wp P (kG N E0 st0 w0 (mJ R Q)) a w)
 (hR:∀ a w,BH N E0 st0 w0 R a w->eS P c (kG N E0 st0 w0 Q) a w):eS P c (kG N E0 st0 w0 Q) a w:=by
 intro b k cs
 obtain ⟨e,a₁,w₁,hq,BI⟩:=h b (.inLoop c::k) cs
 cases e with
 |normal=>
  obtain ⟨e₂,a₂,w₂,X0,Kb⟩:=hR a₁ w₁ hq b k cs
  exact ⟨e₂,a₂,w₂,X0,.of_steps (Steps.trans BI (.one step_inLoop)) Kb⟩
 |exit id=>exact ⟨.exit id,a₁,w₁,hq,.pass (x:=.inLoop c) rfl (fun _ _=>.inl (by simp)) BI⟩
 |ret=>exact ⟨.ret,a₁,w₁,hq,.pass (x:=.inLoop c) rfl (fun _ _=>.inl (by simp)) BI⟩
 |goto l=>exact hq.elim
 |panic ch=>exact hq.elim
 |outgrown=>exact hq.elim
theorem code_ok:∀ (A:AC) (c:Code),pU P N c A=true->∀ (Q:Ex->Fr->St->Prop) {fr:Fr} {st:St} {E:Env} {w:World} {a:Act},
 bC E st w->Ext E0 st0 w0 E st w->aJ E N fr a->a.defers=[]->pT (aB P) A Q fr st->c.wp P (kG N E0 st0 w0 Q) a w
 |.skip,c,hk,Q,fr,st,E,w,a,hs,he,hf,hd,hw=>by
  cases c<;>simp [pU] at hk
  · exact wp_skip ⟨fr,st,E,hw,hs,he,hf,hd⟩
  · exact wp_label ⟨fr,st,E,hw,hs,he,hf,hd⟩
 |.Gb aeN,c,hk,Q,fr,st,E,w,a,hs,he,hf,hd,hw=>by
  cases c<;>simp [pU] at hk
  rename_i id ops draw
  obtain ⟨rfl,hk⟩:=hk
  refine wp_region ?_
  have:=ops_ok (K:=jN Q) (Q:=kG N E0 st0 w0 Q) aeN ops.toList 0 hk (fun k o h=>by simpa using h) hs hf hw (fun bH aR E' a' w' h1 h2 h3 h4 h5=>⟨bH,aR,E',h1,h2,he.trans h3,h4,h5.trans hd⟩)
  rw [List.range_eq_range']
  simpa using this
 |.vD ds kill,c,hk,Q,fr,st,E,w,a,hs,he,hf,hd,hw=>by
  cases c<;>simp [pU] at hk
  rename_i id ops draw
  obtain ⟨rfl,hk⟩:=hk
  simp only [pT] at hw
  rw [T.wp_bind] at hw
  refine drawP_ok hk hs hf hw fun bH aR E' a' w' h1 h2 h3 h4 h5=>?_
  simp only [qS] at h1
  rw [Fr.bL] at h1
  refine ⟨bH.gR kill,aR,E',h1,h2,he.trans h3,⟨h4.size,fun t=>?_⟩,h5.trans hd⟩
  rw [Fr.cR]
  split
  · exact .a8 _
  · exact h4.rel t
 |.seq A B,c,hk,Q,fr,st,E,w,a,hs,he,hf,hd,hw=>by
  cases c<;>simp [pU] at hk
  rename_i x y
  refine wp_seq ?_
  refine wp_mono (code_ok A x hk.1 _ hs he hf hd hw) ?_
  intro e a' w' h
  cases e with
  |normal=>
   obtain ⟨bH,aR,E',h1,h2,h3,h4,h5⟩:=h
   exact code_ok B y hk.2 Q h2 h3 h4 h5 h1
  |exit id=>exact h
  |ret=>exact h
  |goto l=>exact h
  |panic ch=>exact h
  |outgrown=>exact h
 |.cond d A B,c,hk,Q,fr,st,E,w,a,hs,he,hf,hd,hw=>by
  cases c<;>simp [pU] at hk
  rename_i x y z
  have r1:=aH hk.1.1 hf
  simp only [pT] at hw
  split at hw
  · rename_i b hb
    rw [hb] at r1
    exact wp_cond_split r1.bool (fun hb=>code_ok A y hk.1.2 Q hs he hf hd (hw.1 hb)) (fun hb=>code_ok B z hk.2 Q hs he hf hd (hw.2 hb))
  · exact hw.elim
 |.aW id B,c,hk,Q,fr,st,E,w,a,hs,he,hf,hd,hw=>by
  cases c<;>simp [pU] at hk
  rename_i Ad x
  obtain ⟨rfl,hk⟩:=hk
  refine wp_block (wp_mono (code_ok B x hk _ hs he hf hd hw) ?_)
  intro e a' w' h
  cases e with
  |normal=>exact h
  |exit id=>
   obtain ⟨bH,aR,E',h1,h2⟩:=h
   simp only [gA] at h1
   simp only [Exit.inBlock]
   split
   · rename_i A0;rw [if_pos A0] at h1;exact ⟨bH,aR,E',h1,h2⟩
   · rename_i A0;rw [if_neg A0] at h1;exact ⟨bH,aR,E',h1,h2⟩
  |ret=>exact h
  |goto l=>exact h
  |panic ch=>exact h
  |outgrown=>exact h
 |.loop B,c,hk,Q,fr,st,E,w,a,hs,he,hf,hd,hw=>by
  cases c<;>simp [pU] at hk
  rename_i x
  have key:=hw (fun fr st=>∀ (E:Env) (w:World) (a:Act),bC E st w->Ext E0 st0 w0 E st w->aJ E N fr a->a.defers=[]->eS P x (kG N E0 st0 w0 Q) a w) (by
   intro bH fY aR hle h' E' w' a' s1 s2 s3 s4
   refine eS.round (code_ok B x hk _ s1 s2 (s3.le hle) s4 h') ?_
   rintro a2 w2 ⟨Oq,Gl,E2,h1,h2,h3,h4,h5⟩
   exact h1 E2 w2 a2 h2 h3 h4 h5)
  exact (key E w a hs he hf hd).loop
 |.exit id,c,hk,Q,fr,st,E,w,a,hs,he,hf,hd,hw=>by
  cases c<;>simp [pU] at hk
  subst hk
  exact wp_exit ⟨fr,st,E,hw,hs,he,hf,hd⟩
 |.ret,c,hk,Q,fr,st,E,w,a,hs,he,hf,hd,hw=>by
  cases c<;>simp [pU] at hk
  exact wp_ret ⟨fr,st,E,hw,hs,he,hf,hd⟩
 |.no,c,hk,Q,fr,st,E,w,a,hs,he,hf,hd,hw=>hw.elim
end
def kQ (P:Program):List ResultVar->List RV->Bool
 |[],[]=>true
 |.tmp t::r,.t n::q=>decide (t=n)&&kQ P r q
 |.cell x t::r,.cell n sz::q=>decide (x=n)&&m9 P t sz&&kQ P r q
 |_,_=>false
def gB (P:Program) (f:Nat) (F:aC):Bool:=
 match P.funcs[f]? with
 |some fn=>match fn.body with
  |some c=>iE P f&&pU P fn.ntmps c F.body&&kQ P fn.results.toList F.results&&decide (F.nparams<=fn.ntmps)
  |none=>false
 |none=>false
def mK (rs:List RV) (K:V->aA->Prop):Ex->Fr->St->Prop
 |.exit _,_,_=>False
 |.normal,fr,st=>match rJ fr st rs with
  |some v=>K v st.g
  |none=>False
 |.ret,fr,st=>match rJ fr st rs with
  |some v=>K v st.g
  |none=>False
section
variable {P:Program}
theorem gT:∀ (args:List V) (n t:Nat),(cI n args).get t=if n<=t then args.getD (t - n) .a8 else .a8
 |[],n,t=>by simp [cI,Fr.get]
 |v::r,n,t=>by
  simp only [cI,Fr.get]
  by_cases h:n=t
  · subst h;simp
  · rw [if_neg h,gT r (n+1) t]
    by_cases h1:n<=t
    · rw [if_pos h1,if_pos (by omega),show t - n=(t - (n+1))+1 by omega]
      simp
    · rw [if_neg h1,if_neg (by omega)]
theorem yC {E:Env} {w:World} {a:Act} {N:Nat} {fr:Fr} {st:St} (hf:aJ E N fr a) (hs:bC E st w):∀ (rs:List ResultVar) (qs:List RV) (vs:List V),kQ P rs qs=true->jJ fr st qs=some vs->
 ∃ xs:List Value,(rs.mapM (fun
  |.tmp t=>pure (a.tmps.getD t undef)
  |.cell x t=>do loadVar t (<-asAddr (a.tmps.getD x undef)):ResultVar->Sem Value)).run P w=.ok xs w/\cP E.cut vs xs.toArray
 |[],[],vs,_,h=>by
  simp only [jJ,Option.some.injEq] at h
  subst h
  exact ⟨[],rfl,rfl,fun j v x hj=>by simp at hj⟩
 |r::rs,[],vs,hk,h=>by cases r<;>simp [kQ] at hk
 |[],q::qs,vs,hk,h=>by simp [kQ] at hk
 |r::rs,q::qs,vs,hk,h=>by
  simp only [jJ] at h
  split at h
  case h_2=>cases h
  rename_i v vr hv hvr
  simp only [Option.some.injEq] at h
  subst h
  have one:∃ x,((match r with
   |.tmp t=>pure (a.tmps.getD t undef)
   |.cell x t=>do loadVar t (<-asAddr (a.tmps.getD x undef)):Sem Value)).run P w=.ok x w/\Rel E.cut v x:=by
   cases r with
   |tmp t=>
    cases q with
    |cell=>simp [kQ] at hk
    |t n=>
     simp only [kQ,Bool.and_eq_true,decide_eq_true_eq] at hk
     obtain ⟨rfl,_⟩:=hk
     exact ⟨_,rfl,rP hv (hf.rel t)⟩
   |cell y t=>
    cases q with
    |t n=>simp [kQ] at hk
    |cell n sz=>
     simp only [kQ,Bool.and_eq_true,decide_eq_true_eq] at hk
     obtain ⟨⟨rfl,hz⟩,_⟩:=hk
     simp only [Bn] at hv
     split at hv
     case h_2=>cases hv
     rename_i k off hp
     split at hv
     case h_2=>cases hv
     rename_i c dC
     split at hv
     case h_2=>cases hv
     rename_i u hu
     have hr:=hf.rel y
     rw [hp] at hr
     generalize hyy:a.tmps.getD y undef=yy at hr
     cases hr with
     |deep hd=>cases hd
     |p _ _ jG=>
      obtain ⟨x,hx,s6⟩:=jW (P:=P) hz ((hs.cs dC).l6.mono (E.rL k)) hu
      exact ⟨x,by simp only [hyy,asAddr,Sem.run_bind,Sem.run_pure,Result.andThen_ok];exact hx,rP hv s6⟩
  obtain ⟨x,hx,s6⟩:=one
  have Hp:kQ P rs qs=true:=by
   cases r<;>cases q<;>simp [kQ] at hk
   · exact hk.2
   · exact hk.2
  obtain ⟨xs,Ux,hl⟩:=yC hf hs rs qs vr Hp hvr
  refine ⟨x::xs,?_,?_⟩
  · rw [List.mapM_cons]
    simp only [Sem.run_bind]
    rw [hx]
    simp only [Result.andThen_ok]
    rw [Ux]
    rfl
  · refine ⟨by simpa using hl.1,fun j u y hj hy=>?_⟩
    cases j with
    |zero=>simp at hj hy;subst hj;subst hy;exact s6
    |succ j=>exact hl.2 j u y (by simpa using hj) (by simpa using hy)
theorem Rc {f n:Nat} {Vj:List RV} {fn:Func} {c:Code} (JM:P.funcs[f]? =some fn) (hb:fn.body=some c) (k1:iE P f=true) (k3:kQ P fn.results.toList Vj=true) (k4:n<=fn.ntmps)
 {args:List V} (hn:args.length=n) {h:aA} {K:V->aA->Prop}
 (hw:∀ (E:Env) (w:World) (a:Act),bC E (eR h) w->aJ E fn.ntmps (cI 0 args) a->a.defers=[]->c.wp P (kG fn.ntmps E (eR h) w (mK Vj K)) a w):aB P f args h K:=by
 refine ⟨k1,fun E w vs vY hs hv=>?_⟩
 refine calls_of_wp JM hb ?_
 have RR:=hv.1
 have DA:aJ E fn.ntmps (cI 0 args) { tmps:=vs++Array.replicate (fn.ntmps - vs.size) undef,defers:=[] }:=by
  refine ⟨by simp;omega,fun t=>?_⟩
  rw [gT,if_pos (Nat.zero_le _),Nat.sub_zero]
  by_cases ht:t<args.length
  · have h1:args[t]? =some args[t]:=by simp [ht]
    obtain ⟨x,hx,hr⟩:=hv.get h1
    have:(vs++Array.replicate (fn.ntmps - vs.size) undef).getD t undef=x:=by
     rw [Array.getD_eq_getD_getElem?,Array.getElem?_append_left (by omega),hx];rfl
    rw [this]
    simp only [List.getD_eq_getElem?_getD,h1,Option.getD_some]
    exact hr
  · simp only [List.getD_eq_getElem?_getD,List.getElem?_eq_none (Nat.le_of_not_lt ht),Option.getD_none]
    exact .a8 _
 refine wp_mono (hw E w _ hs DA rfl) ?_
 have fin:∀ (a:Act) (w':World),BH fn.ntmps E (eR h) w (fun fr st=>match rJ fr st Vj with|some v=>K v st.g|none=>False) a w'->
  a.defers=[]/\∃ v,(results fn a.tmps).run P w'=.ok v w'/\∃ v' x h' E',K v' h'/\Ending.returned v=.returned x/\E'.nl=0/\bC E' (eR h') w'/\Ext E (eR h) w E' (eR h') w'/\Rel E' v' x:=by
  rintro a w' ⟨fr,st,E',hr,s1,s2,s3,s4⟩
  refine ⟨s4,?_⟩
  have FC:Ext E (eR h) w E'.cut (eR st.g) w':=by
   have hl:∀ k,(eR st.g).live k->st.live k:=by
    intro k hk
    obtain ⟨n,rfl,o,ho⟩:=iR hk
    exact ⟨o,ho⟩
   refine ⟨⟨s2.le.gJ,s2.le.ng,by rw [vY];exact Nat.zero_le _,s2.le.loc⟩,s2.size,s2.eJ,fun k hk he=>s2.eF k (hl k hk) he,fun k hk he=>s2.eQ k (hl k hk) he,s2.same,s2.os,s2.out,s2.tape⟩
  unfold rJ at hr
  cases rT:jJ fr st Vj with
  |none=>rw [rT] at hr;exact hr.elim
  |some us=>
   obtain ⟨xs,ER,xP⟩:=yC (P:=P) s3 s1 fn.results.toList Vj us k3 rT
   have hm:(fn.results.mapM (fun
    |.tmp t=>pure (a.tmps.getD t undef)
    |.cell x t=>do loadVar t (<-asAddr (a.tmps.getD x undef)):ResultVar->Sem Value)).run P w'=.ok xs.toArray w':=by
    have e:fn.results=fn.results.toList.toArray:=by simp
    rw [e,List.mapM_toArray,map_eq_pure_bind]
    simp only [Sem.run_bind,ER,Result.andThen_ok,Sem.run_pure]
   have hlen:=xP.1
   rw [rT] at hr
   match us,xs,hlen,xP,hr,hm with
   |[v],[x],_,xP,hr,hm=>
    refine ⟨x,?_,v,x,st.g,E'.cut,hr,rfl,rfl,s1.cut,FC,xP.2 0 v x rfl (by simp)⟩
    simp only [results,Sem.run_bind]
    exact dE hm (by simp)
   |[],[],_,xP,hr,hm=>
    refine ⟨.tuple #[],?_,.bO [],.tuple #[],st.g,E'.cut,hr,rfl,rfl,s1.cut,FC,dN⟩
    simp only [results,Sem.run_bind]
    exact dE hm (by simp)
   |v1::v2::vr,x1::x2::xr,_,xP,hr,hm=>
    refine ⟨.tuple (x1::x2::xr).toArray,?_,.bO (v1::v2::vr),_,st.g,E'.cut,hr,rfl,rfl,s1.cut,FC,.bO _ _ xP.1 xP.2⟩
    simp only [results,Sem.run_bind]
    exact dE hm (by simp)
 intro e a w' hq
 cases e with
 |normal=>exact fin a w' hq
 |ret=>exact fin a w' hq
 |exit id=>obtain ⟨fr,st,E',h1,_⟩:=hq;exact h1.elim
 |goto l=>exact hq.elim
 |panic ch=>exact hq.elim
 |outgrown=>exact hq.elim
theorem fn_ok {f:Nat} {F:aC} (hk:gB P f F=true) {args:List V} (hn:args.length=F.nparams) {h:aA} {K:V->aA->Prop}
 (hw:pT (aB P) F.body (mK F.results K) (cI 0 args) (eR h)):aB P f args h K:=by
 unfold gB at hk
 split at hk
 case h_2=>cases hk
 rename_i fn JM
 split at hk
 case h_2=>cases hk
 rename_i c hb
 simp only [Bool.and_eq_true,decide_eq_true_eq] at hk
 obtain ⟨⟨⟨k1,k2⟩,k3⟩,k4⟩:=hk
 exact Rc JM hb k1 k3 k4 hn fun E w a hs DA hd=>code_ok (E0:=E) (st0:=eR h) (w0:=w) F.body c k2 _ hs (.refl _ _ _) DA hd hw
end
open Go
abbrev Orc:=Nat->List V->aA->Option (V×aA)
def W2 (run:Orc) (args:List V) (h:aA):Option (V×aA):=
 match args with
 |[.p (.g k) off,.fn g first cap]=>match h.get k with
  |some (.cs c)=>match c[off]? with
   |some (.i .u32 d)=>match decide (d=0) with
    |true=>match c[off+1]? with
     |some (.i .i32 m)=>match decide (m=0) with
      |true=>match run g (first++cap) (h.set k (.cs (c.set (off+1) (.i .i32 1)))) with
       |some (_,h2)=>match h2.get k with
        |some (.cs c2)=>match c2[off]?,c2[off+1]? with
         |some (.i .u32 d2),some (.i .i32 m2)=>match decide (d2=0)&&decide (m2=1) with
          |true=>some (.bO [],h2.set k (.cs ((c2.set off (.i .u32 1)).set (off+1) (.i .i32 0))))
          |false=>none
         |_,_=>none
        |_=>none
       |none=>none
      |false=>none
     |_=>none
    |false=>some (.bO [],h)
   |_=>none
  |_=>none
 |_=>none
structure BJ (P:Program) (once:Nat):Prop where
 done:∀ (k off g:Nat) (first cap c:List V) (d:Int) (h:aA) (K:V->aA->Prop),h.get k=some (.cs c)->c[off]? =some (.i .u32 d)->d≠0->K (.bO []) h->aB P once [.p (.g k) off,.fn g first cap] h K
 first:∀ (k off g:Nat) (first cap c:List V) (h:aA) (K:V->aA->Prop),h.get k=some (.cs c)->c[off]? =some (.i .u32 0)->c[off+1]? =some (.i .i32 0)->
  aB P g (first++cap) (h.set k (.cs (c.set (off+1) (.i .i32 1)))) (fun _ h2=>∃ c2,h2.get k=some (.cs c2)/\c2[off]? =some (.i .u32 0)/\c2[off+1]? =some (.i .i32 1)/\
   K (.bO []) (h2.set k (.cs ((c2.set off (.i .u32 1)).set (off+1) (.i .i32 0)))))->aB P once [.p (.g k) off,.fn g first cap] h K
def yD (P:Program) (fns:Nat->Option aC):Prop:=∀ f F,fns f=some F->gB P f F=true
inductive FT where
 |nil
 |node (l:FT) (k:Nat) (F:aC) (r:FT)
def FT.get:FT->Nat->Option aC
 |.nil,_=>none
 |.node l k F r,f=>match Nat.beq f k with
  |true=>some F
  |false=>match Nat.ble f k with
   |true=>l.get f
   |false=>r.get f
def FT.ok (P:Program):FT->Bool
 |.nil=>true
 |.node l k F r=>gB P k F&&(l.ok P&&r.ok P)
theorem FT.get_ok {P:Program}:∀ {t:FT},t.ok P=true->yD P t.get
 |.nil,_,f,F,h=>by simp [FT.get] at h
 |.node l k G r,hk,f,F,h=>by
  simp only [FT.ok,Bool.and_eq_true] at hk
  simp only [FT.get] at h
  split at h
  · rename_i hb
    have:=Nat.eq_of_beq_eq_true hb
    subst this
    cases h
    exact hk.1
  · split at h
    · exact FT.get_ok hk.2.1 f F h
    · exact FT.get_ok hk.2.2 f F h
theorem FT.node_ok {P:Program} {l r:FT} {k:Nat} {F:aC} (a:gB P k F=true) (b:l.ok P=true) (c:r.ok P=true):(FT.node l k F r).ok P=true:=by simp [FT.ok,a,b,c]
open Go
def V.flat:V->Bool
 |.b _=>true
 |.i _ _=>true
 |.s _=>true
 |.dZ=>true
 |.bU=>true
 |.cY=>true
 |.eA=>true
 |.sl none _ _=>true
 |_=>false
def V.mT:V->Bool
 |.agg cs=>cs.all V.flat
 |.fn _ a c=>a.all V.flat&&c.all V.flat
 |v=>v.flat
def V.free:V->Bool
 |.bO cs=>cs.all V.mT
 |v=>v.mT
def DB (I J:rK):Prop:=∀ b o x,I b o=some x->J b o=some x
theorem sD {E F:Env} (h:DB E.I F.I) {v:V} {x:Value} (hv:v.flat=true) (hr:Rel E v x):Rel F v x:=by
 cases v<;>simp [V.flat] at hv
 case b=>cases hr with|deep hd=>exact .deep (hd.mono h)
 case i=>cases hr with|deep hd=>exact .deep (hd.mono h)
 case s=>cases hr with|deep hd=>exact .deep (hd.mono h)
 case dZ=>cases hr with
  |deep hd=>exact .deep (hd.mono h)
  |dZ=>exact .dZ
 case bU=>cases hr with|deep hd=>exact .deep (hd.mono h)
 case cY=>cases hr with
  |deep hd=>exact .deep (hd.mono h)
  |cY=>exact .cY
 case eA=>cases hr with
  |deep hd=>exact .deep (hd.mono h)
  |eA=>exact .eA
 case sl tok sz es=>
  cases tok with
  |none=>cases hr with|deep hd=>exact .deep (hd.mono h)
  |some k=>simp at hv
theorem A4 {E F:Env} (h:DB E.I F.I) {v:V} {x:Value} (hv:v.mT=true) (hr:Rel E v x):Rel F v x:=by
 cases v
 case agg cs=>
  simp only [V.mT,List.all_eq_true] at hv
  cases hr with
  |deep hd=>cases hd
  |agg _ a ha h1 II=>exact .agg _ _ ha h1 fun j v x hj hx=>sD h (hv v (List.mem_of_getElem? hj)) (II j v x hj hx)
 case fn f a c=>
  simp only [V.mT,Bool.and_eq_true,List.all_eq_true] at hv
  cases hr with
  |deep hd=>cases hd
  |fn _ _ _ a' c' ha hc II T4=>exact .fn _ _ _ _ _ ha hc (fun j v x hj hx=>sD h (hv.1 v (List.mem_of_getElem? hj)) (II j v x hj hx)) (fun j v x hj hx=>sD h (hv.2 v (List.mem_of_getElem? hj)) (T4 j v x hj hx))
 all_goals exact sD h hv hr
theorem sE {E F:Env} (h:DB E.I F.I) {v:V} {x:Value} (hv:v.free=true) (hr:Rel E v x):Rel F v x:=by
 cases v
 case bO cs=>
  simp only [V.free,List.all_eq_true] at hv
  cases hr with
  |deep hd=>cases hd
  |bO _ a ha II=>exact .bO _ _ ha fun j v x hj hx=>A4 h (hv v (List.mem_of_getElem? hj)) (II j v x hj hx)
 all_goals exact A4 h hv hr
def zK:aA:=⟨0,[]⟩
theorem bX {k:Key}:¬(eR zK).live k:=by
 rintro ⟨o,ho⟩
 cases k with
 |g n=>simp [St.get,zK,aA.get,aA.find] at ho
 |l n=>simp [St.get,Xj,aA.get,aA.find] at ho
theorem aB.frame {P:Program} {f:Nat} {args:List V} {K0:V->aA->Prop} (h0:aB P f args zK K0) (ha:args.all V.free=true) {h:aA} {K:V->aA->Prop}
 (hK:∀ v h',K0 v h'->v.free=true/\K v h):aB P f args h K:=by
 refine ⟨h0.1,fun E w vs vY hs hv=>?_⟩
 simp only [List.all_eq_true] at ha
 let E0:Env:={ I:=E.I,μ:=E.μ,ng:=0,nl:=0 }
 have X1:bC E0 (eR zK) w:=⟨rfl,rfl,fun k hk=>absurd hk bX,hs.gJ,fun k o hk=>absurd ⟨o,hk⟩ bX,fun k k' hk=>absurd hk bX,fun k hk=>absurd hk bX⟩
 have Vc:cP E0 args vs:=⟨hv.1,fun j v x hj hx=>sE (E:=E) (F:=E0) (fun b o x h=>h) (ha v (List.mem_of_getElem? hj)) (hv.2 j v x hj hx)⟩
 refine (h0.2 E0 w vs rfl X1 Vc).mono ?_
 rintro e w' ⟨v,x,h',E',hk,rfl,hn,iA,he,hr⟩
 obtain ⟨Gv,By⟩:=hK v h' hk
 have EX:DB E.I E'.I:=he.le.gJ
 have kL:∀ k,(eR h).live k->w'.heap[(E.μ k).aW]? =w.heap[(E.μ k).aW]? :=fun k hk=>he.same _ (hs.lt hk) fun k0 HL=>absurd HL bX
 have hle:E.Le { E with I:=E'.I }:=⟨EX,Nat.le_refl _,Nat.le_refl _,fun _ _=>rfl⟩
 refine ⟨v,x,h,{ E with I:=E'.I },By,rfl,vY,⟨hs.ng,hs.nl,fun k hk=>hs.g9 k hk,iA.gJ,fun k o hk=>?_,fun k k' hk jG cO=>hs.sep k k' hk jG cO,fun k hk j h1 h2=>?_⟩,
  ⟨hle,he.size,fun b o x hx=>?_,fun k hk _=>hk,fun k hk hn=>absurd (hs.g9 k hk) hn,fun b hb _=>he.same b hb fun k hk=>absurd hk bX,he.os,he.out,he.tape⟩,sE (E:=E') (F:={ E with I:=E'.I }) (fun b o x h=>h) Gv hr⟩
 · exact (hs.obj k o hk).lM (Env.gK hle k) (kL k ⟨o,hk⟩)
 · show E'.I (E.μ k).aW j=none
   cases hx:E'.I (E.μ k).aW j with
   |none=>rfl
   |some y=>
    rcases he.eJ _ _ _ hx with h3|h3|⟨k0,h3,_⟩
    · have:=hs.own k hk j h1 h2
      rw [show E0.I=E.I from rfl,this] at h3
      cases h3
    · have:=hs.lt hk
      omega
    · exact absurd h3 bX
 · rcases he.eJ b o x hx with h1|h1|⟨k0,h1,_⟩
   · exact .inl h1
   · exact .inr (.inl h1)
   · exact absurd h1 bX
open Go
structure fM (α:Type) where
 run:α
structure Fa where
 a:V
 b:V
 c:V
 d:V
 e:V
 f:V
 g:V
 h:V
structure Fb where
 a:Fa
 b:Fa
 c:Fa
 d:Fa
 e:Fa
 f:Fa
 g:Fa
 h:Fa
structure Fc where
 a:Fb
 b:Fb
 c:Fb
 d:Fb
 e:Fb
 f:Fb
 g:Fb
 h:Fb
inductive TH where
 |nil
 |leaf (n:Nat) (o:Obj)
 |node (a b c d:TH)
inductive SM where
 |mk (gn:Nat) (g:TH) (ln:Nat) (l:TH)
inductive Mem where
 |mk (n:Nat) (t:TH)
inductive Rz where
 |none
 |sH (fr:Fc) (st:SM)
 |exit (id:Nat) (fr:Fc) (st:SM)
 |ret (fr:Fc) (st:SM)
inductive Cz where
 |none
 |some (v:V) (m:Mem)
section
variable {α:Type}
noncomputable def aL (c:Bool) (t e:α):α:=Bool.rec (motive:=fun _=>α) e t c
noncomputable def aZ {δ:Type} (o:Option δ) (n:α) (k:δ->α):α:=Option.rec (motive:=fun _=>α) n k o
noncomputable def eI (b:Nat) (w x y z:α):α:=Nat.rec (motive:=fun _=>α) w (fun p _=>Nat.rec (motive:=fun _=>α) x (fun p _=>Nat.rec (motive:=fun _=>α) y (fun _ _=>z) p) p) (Nat.mod b 4)
noncomputable def A7 (n:Nat) (p q r s t u v w:α):α:=Nat.rec (motive:=fun _=>α) p (fun n _=>Nat.rec (motive:=fun _=>α) q (fun n _=>Nat.rec (motive:=fun _=>α) r (fun n _=>Nat.rec (motive:=fun _=>α) s (fun n _=>Nat.rec (motive:=fun _=>α) t (fun n _=>Nat.rec (motive:=fun _=>α) u (fun n _=>Nat.rec (motive:=fun _=>α) v (fun _ _=>w) n) n) n) n) n) n) n
noncomputable def nX (n:Nat) (k:Nat->α):α:=Nat.rec (motive:=fun _=>α) (k 0) (fun m _=>k (Nat.succ m)) n
noncomputable def Gx (n:Nat):fM (Fa->V):=A7 n ⟨fun f=>Fa.a f⟩ ⟨fun f=>Fa.b f⟩ ⟨fun f=>Fa.c f⟩ ⟨fun f=>Fa.d f⟩ ⟨fun f=>Fa.e f⟩ ⟨fun f=>Fa.f f⟩ ⟨fun f=>Fa.g f⟩ ⟨fun f=>Fa.h f⟩
noncomputable def Kg (n:Nat):fM (Fa->V->(Fa->α)->α):=A7 n
 ⟨fun f x k=>Fa.rec (motive:=fun _=>α) (fun _ b c d e f g h=>k (.mk x b c d e f g h)) f⟩
 ⟨fun f x k=>Fa.rec (motive:=fun _=>α) (fun a _ c d e f g h=>k (.mk a x c d e f g h)) f⟩
 ⟨fun f x k=>Fa.rec (motive:=fun _=>α) (fun a b _ d e f g h=>k (.mk a b x d e f g h)) f⟩
 ⟨fun f x k=>Fa.rec (motive:=fun _=>α) (fun a b c _ e f g h=>k (.mk a b c x e f g h)) f⟩
 ⟨fun f x k=>Fa.rec (motive:=fun _=>α) (fun a b c d _ f g h=>k (.mk a b c d x f g h)) f⟩
 ⟨fun f x k=>Fa.rec (motive:=fun _=>α) (fun a b c d e _ g h=>k (.mk a b c d e x g h)) f⟩
 ⟨fun f x k=>Fa.rec (motive:=fun _=>α) (fun a b c d e f _ h=>k (.mk a b c d e f x h)) f⟩
 ⟨fun f x k=>Fa.rec (motive:=fun _=>α) (fun a b c d e f g _=>k (.mk a b c d e f g x)) f⟩
noncomputable def yJ (n:Nat):fM (Fb->Fa):=A7 n ⟨fun f=>Fb.a f⟩ ⟨fun f=>Fb.b f⟩ ⟨fun f=>Fb.c f⟩ ⟨fun f=>Fb.d f⟩ ⟨fun f=>Fb.e f⟩ ⟨fun f=>Fb.f f⟩ ⟨fun f=>Fb.g f⟩ ⟨fun f=>Fb.h f⟩
noncomputable def Kh (n:Nat):fM (Fb->Fa->(Fb->α)->α):=A7 n
 ⟨fun f x k=>Fb.rec (motive:=fun _=>α) (fun _ b c d e f g h=>k (.mk x b c d e f g h)) f⟩
 ⟨fun f x k=>Fb.rec (motive:=fun _=>α) (fun a _ c d e f g h=>k (.mk a x c d e f g h)) f⟩
 ⟨fun f x k=>Fb.rec (motive:=fun _=>α) (fun a b _ d e f g h=>k (.mk a b x d e f g h)) f⟩
 ⟨fun f x k=>Fb.rec (motive:=fun _=>α) (fun a b c _ e f g h=>k (.mk a b c x e f g h)) f⟩
 ⟨fun f x k=>Fb.rec (motive:=fun _=>α) (fun a b c d _ f g h=>k (.mk a b c d x f g h)) f⟩
 ⟨fun f x k=>Fb.rec (motive:=fun _=>α) (fun a b c d e _ g h=>k (.mk a b c d e x g h)) f⟩
 ⟨fun f x k=>Fb.rec (motive:=fun _=>α) (fun a b c d e f _ h=>k (.mk a b c d e f x h)) f⟩
 ⟨fun f x k=>Fb.rec (motive:=fun _=>α) (fun a b c d e f g _=>k (.mk a b c d e f g x)) f⟩
noncomputable def qC (n:Nat):fM (Fc->Fb):=A7 n ⟨fun f=>Fc.a f⟩ ⟨fun f=>Fc.b f⟩ ⟨fun f=>Fc.c f⟩ ⟨fun f=>Fc.d f⟩ ⟨fun f=>Fc.e f⟩ ⟨fun f=>Fc.f f⟩ ⟨fun f=>Fc.g f⟩ ⟨fun f=>Fc.h f⟩
noncomputable def Ki (n:Nat):fM (Fc->Fb->(Fc->α)->α):=A7 n
 ⟨fun f x k=>Fc.rec (motive:=fun _=>α) (fun _ b c d e f g h=>k (.mk x b c d e f g h)) f⟩
 ⟨fun f x k=>Fc.rec (motive:=fun _=>α) (fun a _ c d e f g h=>k (.mk a x c d e f g h)) f⟩
 ⟨fun f x k=>Fc.rec (motive:=fun _=>α) (fun a b _ d e f g h=>k (.mk a b x d e f g h)) f⟩
 ⟨fun f x k=>Fc.rec (motive:=fun _=>α) (fun a b c _ e f g h=>k (.mk a b c x e f g h)) f⟩
 ⟨fun f x k=>Fc.rec (motive:=fun _=>α) (fun a b c d _ f g h=>k (.mk a b c d x f g h)) f⟩
 ⟨fun f x k=>Fc.rec (motive:=fun _=>α) (fun a b c d e _ g h=>k (.mk a b c d e x g h)) f⟩
 ⟨fun f x k=>Fc.rec (motive:=fun _=>α) (fun a b c d e f _ h=>k (.mk a b c d e f x h)) f⟩
 ⟨fun f x k=>Fc.rec (motive:=fun _=>α) (fun a b c d e f g _=>k (.mk a b c d e f g x)) f⟩
noncomputable def hU (n:Nat):fM (Fc->V):=aL (Nat.ble n 511) ⟨fun f=>(Gx (Nat.mod n 8)).run ((yJ (Nat.mod (Nat.div n 8) 8)).run ((qC (Nat.div n 64)).run f))⟩ ⟨fun _=>.a8⟩
noncomputable def FE (n:Nat) (no:α):fM (Fc->V->(Fc->α)->α):=aL (Nat.ble n 511) ⟨fun f v k=>(Kg (Nat.mod n 8)).run ((yJ (Nat.mod (Nat.div n 8) 8)).run ((qC (Nat.div n 64)).run f)) v fun a=>(Kh (Nat.mod (Nat.div n 8) 8)).run ((qC (Nat.div n 64)).run f) a fun b=>(Ki (Nat.div n 64)).run f b k⟩ ⟨fun _ _ _=>no⟩
def Ri:Fa:=⟨.a8,.a8,.a8,.a8,.a8,.a8,.a8,.a8⟩
def Rj:Fb:=⟨Ri,Ri,Ri,Ri,Ri,Ri,Ri,Ri⟩
def HN:Fc:=⟨Rj,Rj,Rj,Rj,Rj,Rj,Rj,Rj⟩
noncomputable def TH.get (t:TH):Nat->Nat->Option Obj:=
 TH.rec (motive:=fun _=>Nat->Nat->Option Obj) (fun _ _=>.none) (fun k o _ n=>aL (Nat.beq k n) (.some o) .none)
  (fun _ _ _ _ ia ib ic id b n=>eI b ia ib ic id (Nat.div b 4) n) t
noncomputable def TH.two (fuel:Nat):Nat->Nat->TH->TH->(TH->α)->α:=Nat.rec (motive:=fun _=>Nat->Nat->TH->TH->(TH->α)->α) (fun _ _ s _ k=>k s)
 (fun _ ih b c s t k=>aL (Nat.beq (Nat.mod b 4) (Nat.mod c 4))
   (ih (Nat.div b 4) (Nat.div c 4) s t fun r=>eI b (k (node r nil nil nil)) (k (node nil r nil nil)) (k (node nil nil r nil)) (k (node nil nil nil r)))
   (eI b (eI c (k s) (k (node s t nil nil)) (k (node s nil t nil)) (k (node s nil nil t))) (eI c (k (node t s nil nil)) (k s) (k (node nil s t nil)) (k (node nil s nil t)))
     (eI c (k (node t nil s nil)) (k (node nil t s nil)) (k s) (k (node nil nil s t))) (eI c (k (node t nil nil s)) (k (node nil t nil s)) (k (node nil nil t s)) (k s)))) fuel
noncomputable def TH.put (n:Nat) (o:Obj) (t:TH):Nat->Nat->(TH->α)->α:=
 TH.rec (motive:=fun _=>Nat->Nat->(TH->α)->α) (fun _ _ k=>k (leaf n o)) (fun j u b p k=>aL (Nat.beq j n) (k (leaf n o)) (TH.two 40 b (Nat.div j p) (leaf n o) (leaf j u) k))
  (fun a b c d ia ib ic id x p k=>eI x (ia (Nat.div x 4) (Nat.mul p 4) fun r=>k (node r b c d)) (ib (Nat.div x 4) (Nat.mul p 4) fun r=>k (node a r c d)) (ic (Nat.div x 4) (Nat.mul p 4) fun r=>k (node a b r d)) (id (Nat.div x 4) (Nat.mul p 4) fun r=>k (node a b c r))) t
noncomputable def TH.del (n:Nat) (t:TH):Nat->(TH->α)->α:=
 TH.rec (motive:=fun _=>Nat->(TH->α)->α) (fun _ k=>k nil) (fun j u _ k=>aL (Nat.beq j n) (k nil) (k (leaf j u)))
  (fun a b c d ia ib ic id x k=>eI x (ia (Nat.div x 4) fun r=>k (node r b c d)) (ib (Nat.div x 4) fun r=>k (node a r c d)) (ic (Nat.div x 4) fun r=>k (node a b r d)) (id (Nat.div x 4) fun r=>k (node a b c r))) t
noncomputable def SM.Rk (st:SM) (k:Nat->TH->Nat->TH->α):α:=SM.rec (motive:=fun _=>α) k st
noncomputable def j5 (k:Key) (g l:Nat->α):α:=Key.rec (motive:=fun _=>α) g l k
noncomputable def SM.look (st:SM) (key:Key):Option Obj:=st.Rk fun _ g _ l=>j5 key (fun n=>g.get n n) (fun n=>l.get n n)
noncomputable def SM.set (st:SM) (key:Key) (o:Obj) (k:SM->α):α:=st.Rk fun gn g ln l=>j5 key (fun n=>TH.put n o g n 1 fun g=>k (.mk gn g ln l)) (fun n=>TH.put n o l n 1 fun l=>k (.mk gn g ln l))
noncomputable def SM.drop (st:SM) (key:Key) (k:SM->α):α:=st.Rk fun gn g ln l=>j5 key (fun n=>TH.del n g n fun g=>k (.mk gn g ln l)) (fun n=>TH.del n l n fun l=>k (.mk gn g ln l))
noncomputable def SM.push (st:SM) (b:Bool) (o:Obj) (k:Key->SM->α):α:=st.Rk fun gn g ln l=>
 aL b (TH.put gn o g gn 1 fun g=>nX (Nat.add gn 1) fun n=>k (.g gn) (.mk n g ln l)) (TH.put ln o l ln 1 fun l=>nX (Nat.add ln 1) fun n=>k (.l ln) (.mk gn g n l))
noncomputable def Gy (n:Nat) (ks:List Nat):Bool:=List.rec (motive:=fun _=>Bool) false (fun k _ ih=>aL (Nat.beq n k) true ih) ks
noncomputable def vB (d:α) (b:Bool->α) (v:V):α:=V.rec (motive_1:=fun _=>α) (motive_2:=fun _=>α) (motive_3:=fun _=>α) b (fun _ _=>d) (fun _=>d) d (fun _ _=>d) (fun _ _ _ _=>d) (fun _ _ _=>d) d (fun _ _ _ _=>d) (fun _ _ _ _=>d) d (fun _=>d) (fun _ _ _ _ _=>d) d (fun _ _=>d) (fun _ _=>d) d d (fun _ _ _ _=>d) d (fun _ _ _ _=>d) v
noncomputable def eG (d:α) (i:IntKind->Int->α) (v:V):α:=V.rec (motive_1:=fun _=>α) (motive_2:=fun _=>α) (motive_3:=fun _=>α) (fun _=>d) i (fun _=>d) d (fun _ _=>d) (fun _ _ _ _=>d) (fun _ _ _=>d) d (fun _ _ _ _=>d) (fun _ _ _ _=>d) d (fun _=>d) (fun _ _ _ _ _=>d) d (fun _ _=>d) (fun _ _=>d) d d (fun _ _ _ _=>d) d (fun _ _ _ _=>d) v
noncomputable def jD (d:α) (s:(List UInt8)->α) (v:V):α:=V.rec (motive_1:=fun _=>α) (motive_2:=fun _=>α) (motive_3:=fun _=>α) (fun _=>d) (fun _ _=>d) s d (fun _ _=>d) (fun _ _ _ _=>d) (fun _ _ _=>d) d (fun _ _ _ _=>d) (fun _ _ _ _=>d) d (fun _=>d) (fun _ _ _ _ _=>d) d (fun _ _=>d) (fun _ _=>d) d d (fun _ _ _ _=>d) d (fun _ _ _ _=>d) v
noncomputable def Vo (d:α) (i:IntKind->Int->α) (s:(List UInt8)->α) (v:V):α:=V.rec (motive_1:=fun _=>α) (motive_2:=fun _=>α) (motive_3:=fun _=>α) (fun _=>d) i s d (fun _ _=>d) (fun _ _ _ _=>d) (fun _ _ _=>d) d (fun _ _ _ _=>d) (fun _ _ _ _=>d) d (fun _=>d) (fun _ _ _ _ _=>d) d (fun _ _=>d) (fun _ _=>d) d d (fun _ _ _ _=>d) d (fun _ _ _ _=>d) v
noncomputable def vP (d:α) (p:Key->Nat->α) (pa:Key->Nat->Nat->Nat->α) (pc:(List V)->Nat->α) (v:V):α:=V.rec (motive_1:=fun _=>α) (motive_2:=fun _=>α) (motive_3:=fun _=>α) (fun _=>d) (fun _ _=>d) (fun _=>d) d p pa (fun w x _=>pc w x) d (fun _ _ _ _=>d) (fun _ _ _ _=>d) d (fun _=>d) (fun _ _ _ _ _=>d) d (fun _ _=>d) (fun _ _=>d) d d (fun _ _ _ _=>d) d (fun _ _ _ _=>d) v
noncomputable def vQ (d:α) (p:Key->Nat->α) (pa:Key->Nat->Nat->Nat->α) (pc:(List V)->Nat->α) (fn:Nat->(List V)->(List V)->α) (v:V):α:=V.rec (motive_1:=fun _=>α) (motive_2:=fun _=>α) (motive_3:=fun _=>α) (fun _=>d) (fun _ _=>d) (fun _=>d) d p pa (fun w x _=>pc w x) d (fun _ _ _ _=>d) (fun _ _ _ _=>d) d (fun _=>d) (fun w x y _ _=>fn w x y) d (fun _ _=>d) (fun _ _=>d) d d (fun _ _ _ _=>d) d (fun _ _ _ _=>d) v
noncomputable def vL (d:α) (s:(List UInt8)->α) (bU:α) (sl:(Option Key)->Nat->(List (List V))->α) (ms:Key->Nat->Nat->Nat->α) (v:V):α:=V.rec (motive_1:=fun _=>α) (motive_2:=fun _=>α) (motive_3:=fun _=>α) (fun _=>d) (fun _ _=>d) s d (fun _ _=>d) (fun _ _ _ _=>d) (fun _ _ _=>d) bU (fun w x y _=>sl w x y) ms d (fun _=>d) (fun _ _ _ _ _=>d) d (fun _ _=>d) (fun _ _=>d) d d (fun _ _ _ _=>d) d (fun _ _ _ _=>d) v
noncomputable def vM (d:α) (cY:α) (m:Key->α) (v:V):α:=V.rec (motive_1:=fun _=>α) (motive_2:=fun _=>α) (motive_3:=fun _=>α) (fun _=>d) (fun _ _=>d) (fun _=>d) d (fun _ _=>d) (fun _ _ _ _=>d) (fun _ _ _=>d) d (fun _ _ _ _=>d) (fun _ _ _ _=>d) cY m (fun _ _ _ _ _=>d) d (fun _ _=>d) (fun _ _=>d) d d (fun _ _ _ _=>d) d (fun _ _ _ _=>d) v
noncomputable def vA (d:α) (agg:(List V)->α) (v:V):α:=V.rec (motive_1:=fun _=>α) (motive_2:=fun _=>α) (motive_3:=fun _=>α) (fun _=>d) (fun _ _=>d) (fun _=>d) d (fun _ _=>d) (fun _ _ _ _=>d) (fun _ _ _=>d) d (fun _ _ _ _=>d) (fun _ _ _ _=>d) d (fun _=>d) (fun _ _ _ _ _=>d) d (fun w _=>agg w) (fun _ _=>d) d d (fun _ _ _ _=>d) d (fun _ _ _ _=>d) v
noncomputable def vT (d:α) (bO:(List V)->α) (v:V):α:=V.rec (motive_1:=fun _=>α) (motive_2:=fun _=>α) (motive_3:=fun _=>α) (fun _=>d) (fun _ _=>d) (fun _=>d) d (fun _ _=>d) (fun _ _ _ _=>d) (fun _ _ _=>d) d (fun _ _ _ _=>d) (fun _ _ _ _=>d) d (fun _=>d) (fun _ _ _ _ _=>d) d (fun _ _=>d) (fun w _=>bO w) d d (fun _ _ _ _=>d) d (fun _ _ _ _=>d) v
noncomputable def vF (d:α) (fn:Nat->(List V)->(List V)->α) (v:V):α:=V.rec (motive_1:=fun _=>α) (motive_2:=fun _=>α) (motive_3:=fun _=>α) (fun _=>d) (fun _ _=>d) (fun _=>d) d (fun _ _=>d) (fun _ _ _ _=>d) (fun _ _ _=>d) d (fun _ _ _ _=>d) (fun _ _ _ _=>d) d (fun _=>d) (fun w x y _ _=>fn w x y) d (fun _ _=>d) (fun _ _=>d) d d (fun _ _ _ _=>d) d (fun _ _ _ _=>d) v
noncomputable def X7 (d:α) (dZ:α) (p:Key->Nat->α) (pa:Key->Nat->Nat->Nat->α) (v:V):α:=V.rec (motive_1:=fun _=>α) (motive_2:=fun _=>α) (motive_3:=fun _=>α) (fun _=>d) (fun _ _=>d) (fun _=>d) dZ p pa (fun _ _ _=>d) d (fun _ _ _ _=>d) (fun _ _ _ _=>d) d (fun _=>d) (fun _ _ _ _ _=>d) d (fun _ _=>d) (fun _ _=>d) d d (fun _ _ _ _=>d) d (fun _ _ _ _=>d) v
noncomputable def X8 (d:α) (eA:α) (fn:Nat->(List V)->(List V)->α) (v:V):α:=V.rec (motive_1:=fun _=>α) (motive_2:=fun _=>α) (motive_3:=fun _=>α) (fun _=>d) (fun _ _=>d) (fun _=>d) d (fun _ _=>d) (fun _ _ _ _=>d) (fun _ _ _=>d) d (fun _ _ _ _=>d) (fun _ _ _ _=>d) d (fun _=>d) (fun w x y _ _=>fn w x y) eA (fun _ _=>d) (fun _ _=>d) d d (fun _ _ _ _=>d) d (fun _ _ _ _=>d) v
noncomputable def Z2 (d:α) (dZ:α) (bU:α) (cY:α) (eA:α) (v:V):α:=V.rec (motive_1:=fun _=>α) (motive_2:=fun _=>α) (motive_3:=fun _=>α) (fun _=>d) (fun _ _=>d) (fun _=>d) dZ (fun _ _=>d) (fun _ _ _ _=>d) (fun _ _ _=>d) bU (fun _ _ _ _=>d) (fun _ _ _ _=>d) cY (fun _=>d) (fun _ _ _ _ _=>d) eA (fun _ _=>d) (fun _ _=>d) d d (fun _ _ _ _=>d) d (fun _ _ _ _=>d) v
noncomputable def vG (d:α) (b:Bool->α) (bO:(List V)->α) (v:V):α:=V.rec (motive_1:=fun _=>α) (motive_2:=fun _=>α) (motive_3:=fun _=>α) b (fun _ _=>d) (fun _=>d) d (fun _ _=>d) (fun _ _ _ _=>d) (fun _ _ _=>d) d (fun _ _ _ _=>d) (fun _ _ _ _=>d) d (fun _=>d) (fun _ _ _ _ _=>d) d (fun _ _=>d) (fun w _=>bO w) d d (fun _ _ _ _=>d) d (fun _ _ _ _=>d) v
noncomputable def vK (k:V->α) (v:V):α:=V.rec (motive_1:=fun _=>α) (motive_2:=fun _=>α) (motive_3:=fun _=>α) (fun w=>k (.b w)) (fun w x=>k (.i w x)) (fun w=>k (.s w)) (k .dZ) (fun w x=>k (.p w x)) (fun w x y z=>k (.pa w x y z)) (fun w x _=>(fun w x=>k (.pc w x)) w x) (k .bU) (fun w x y _=>(fun w x y=>k (.sl w x y)) w x y) (fun w x y z=>k (.ms w x y z)) (k .cY) (fun w=>k (.m w)) (fun w x y _ _=>(fun w x y=>k (.fn w x y)) w x y) (k .eA) (fun w _=>(fun w=>k (.agg w)) w) (fun w _=>(fun w=>k (.bO w)) w) (k .a8) (k .a8) (fun _ _ _ _=>k .a8) (k .a8) (fun _ _ _ _=>k .a8) v
noncomputable def vC (d:α) (k:List V->α) (v:V):α:=V.rec (motive_1:=fun _=>α) (motive_2:=fun _=>α) (motive_3:=fun _=>α) (fun w=>k [(.b w)]) (fun w x=>k [(.i w x)]) (fun w=>k [(.s w)]) (k [.dZ]) (fun w x=>k [(.p w x)]) (fun w x y z=>k [(.pa w x y z)]) (fun _ _ _=>d) (k [.bU]) (fun w x y _=>(fun w x y=>k [(.sl w x y)]) w x y) (fun w x y z=>k [(.ms w x y z)]) (k [.cY]) (fun w=>k [(.m w)]) (fun w x y _ _=>(fun w x y=>k [(.fn w x y)]) w x y) (k [.eA]) (fun w _=>k w) (fun _ _=>d) d d (fun _ _ _ _=>d) d (fun _ _ _ _=>d) v
noncomputable def X9 (d:α) (k:List V->α) (v:V):α:=V.rec (motive_1:=fun _=>α) (motive_2:=fun _=>α) (motive_3:=fun _=>α) (fun w=>k [(.b w)]) (fun w x=>k [(.i w x)]) (fun w=>k [(.s w)]) (k [.dZ]) (fun w x=>k [(.p w x)]) (fun w x y z=>k [(.pa w x y z)]) (fun w x _=>(fun w x=>k [(.pc w x)]) w x) (k [.bU]) (fun w x y _=>(fun w x y=>k [(.sl w x y)]) w x y) (fun w x y z=>k [(.ms w x y z)]) (k [.cY]) (fun w=>k [(.m w)]) (fun w x y _ _=>(fun w x y=>k [(.fn w x y)]) w x y) (k [.eA]) (fun _ _=>d) (fun w _=>(fun w=>k [(.bO w)]) w) (k [.a8]) d (fun _ _ _ _=>d) d (fun _ _ _ _=>d) v
noncomputable def A8 (cs:List V->α) (arr:Nat->List (List V)->α) (sp:α) (mp:Option IntKind->List (V×V)->α) (o:Obj):α:=Obj.rec (motive:=fun _=>α) cs arr sp mp o
noncomputable def iC (k:Nat->α) (j:Nat->α) (x:Int):α:=Int.rec (motive:=fun _=>α) k j x
end
section
variable {δ:Type}
noncomputable def fU (l:List δ):Nat->Option δ:=List.rec (motive:=fun _=>Nat->Option δ) (fun _=>none) (fun a _ ih n=>Nat.rec (motive:=fun _=>Option δ) (some a) (fun m _=>ih m) n) l
noncomputable def bY (l:List δ):Nat:=List.rec (motive:=fun _=>Nat) 0 (fun _ _ ih=>Nat.add ih 1) l
noncomputable def pV (l m:List δ):List δ:=List.rec (motive:=fun _=>List δ) m (fun a _ ih=>a::ih) l
noncomputable def iU (l:List δ):Nat->List δ:=List.rec (motive:=fun _=>Nat->List δ) (fun _=>[]) (fun a r ih n=>Nat.rec (motive:=fun _=>List δ) (a::r) (fun m _=>ih m) n) l
noncomputable def j6 (l:List δ):Nat->List δ:=List.rec (motive:=fun _=>Nat->List δ) (fun _=>[]) (fun a _ ih n=>Nat.rec (motive:=fun _=>List δ) [] (fun m _=>a::ih m) n) l
noncomputable def HO (l:List δ):Nat->δ->List δ:=List.rec (motive:=fun _=>Nat->δ->List δ) (fun _ _=>[]) (fun a r ih n x=>Nat.rec (motive:=fun _=>List δ) (x::r) (fun m _=>a::ih m x) n) l
noncomputable def spell {α:Type} (l:List δ):(List δ->α)->α:=List.rec (motive:=fun _=>(List δ->α)->α) (fun k=>k []) (fun a _ ih k=>ih fun r=>k (a::r)) l
noncomputable def mM (l:List δ):Nat->List δ->List δ:=List.rec (motive:=fun _=>Nat->List δ->List δ) (fun _ _=>[]) (fun a r ih n vs=>Nat.rec (motive:=fun _=>List δ) (List.rec (motive:=fun _=>List δ) (a::r) (fun v q _=>v::ih 0 q) vs) (fun m _=>a::ih m vs) n) l
noncomputable def DE (n:Nat):List δ->Option (List δ):=Nat.rec (motive:=fun _=>List δ->Option (List δ)) (fun _=>some []) (fun _ ih l=>List.rec (motive:=fun _=>Option (List δ)) none (fun a r _=>aZ (ih r) none fun x=>some (a::x)) l) n
noncomputable def FF (n:Nat) (x:δ):List δ:=Nat.rec (motive:=fun _=>List δ) [] (fun _ ih=>x::ih) n
noncomputable def iV (f:δ->Option δ) (l:List δ):Option (List δ):=List.rec (motive:=fun _=>Option (List δ)) (some []) (fun v _ ih=>aZ (f v) none fun x=>aZ ih none fun y=>some (x::y)) l
end
noncomputable def Gz (cs:List V) (off:Nat) (n:Option Nat):Option V:=
 Option.rec (motive:=fun _=>Option V) (fU cs off) (fun n=>aL (Nat.beq n 0) (cG cs off (some 0)) (aZ (DE n (iU cs off)) none fun x=>some (.agg x))) n
noncomputable def Z3 (k:IntKind):Nat:=IntKind.rec (motive:=fun _=>Nat) 0 1 2 3 4 5 6 7 k
noncomputable def lA (k k':IntKind):Bool:=Nat.beq (Z3 k) (Z3 k')
noncomputable def ET (x y:Int):Bool:=iC (fun a=>iC (fun b=>Nat.ble (Nat.add a 1) b) (fun _=>false) y) (fun a=>iC (fun _=>true) (fun b=>Nat.ble (Nat.add b 1) a) y) x
noncomputable def HP (x y:Int):Bool:=iC (fun a=>iC (fun b=>Nat.beq a b) (fun _=>false) y) (fun a=>iC (fun _=>false) (fun b=>Nat.beq a b) y) x
noncomputable def gF (b:Bool):Bool:=aL b false true
noncomputable def Sn (x y:Int):Int:=iC (fun a=>iC (fun b=>.ofNat (Nat.add a b)) (fun _=>x+y) y) (fun _=>x+y) x
noncomputable def Vp (x y:Int):Int:=iC (fun a=>iC (fun b=>aL (Nat.ble b a) (.ofNat (Nat.sub a b)) (x - y)) (fun _=>x - y) y) (fun _=>x - y) x
noncomputable def Vq (x y:Int):Int:=iC (fun a=>iC (fun b=>.ofNat (Nat.mul a b)) (fun _=>x*y) y) (fun _=>x*y) x
noncomputable def wr (k:IntKind) (n:Int):Int:=iC (fun a=>
 IntKind.rec (motive:=fun _=>Int) (k.wrap n) (k.wrap n) (k.wrap n) (aL (Nat.ble a 9223372036854775807) (.ofNat a) (k.wrap n)) (.ofNat (Nat.mod a 256)) (.ofNat (Nat.mod a 65536)) (.ofNat (Nat.mod a 4294967296)) (.ofNat (Nat.mod a 18446744073709551616)) k)
 (fun _=>k.wrap n) n
noncomputable def u8N (c:UInt8):Nat:=c.toNat
noncomputable def BN (a:List UInt8):List UInt8->Bool:=List.rec (motive:=fun _=>List UInt8->Bool) (fun b=>List.rec (motive:=fun _=>Bool) true (fun _ _ _=>false) b)
 (fun x _ ih b=>List.rec (motive:=fun _=>Bool) false (fun y q _=>aL (Nat.beq (u8N x) (u8N y)) (ih q) false) b) a
noncomputable def EU (a:List UInt8):List UInt8->Bool:=List.rec (motive:=fun _=>List UInt8->Bool) (fun b=>List.rec (motive:=fun _=>Bool) false (fun _ _ _=>true) b)
 (fun x _ ih b=>List.rec (motive:=fun _=>Bool) false (fun y q _=>aL (Nat.beq (u8N x) (u8N y)) (ih q) (Nat.ble (Nat.add (u8N x) 1) (u8N y))) b) a
noncomputable def Ag (v:V):Option V:=V.rec (motive_1:=fun _=>Option V) (motive_2:=fun _=>Option V) (motive_3:=fun _=>Option V) (fun w=>some (.b w)) (fun w x=>some (.i w x)) (fun w=>some (.s w)) (some .dZ) (fun w x=>j5 w (fun n=>some (.p (.g n) x)) fun _=>none) (fun w x y z=>j5 w (fun n=>some (.pa (.g n) x y z)) fun _=>none) (fun _ _ _=>none) (some .bU) (fun w x y _=>(fun w x y=>aZ w (some (.sl none x y)) fun a=>j5 a (fun n=>some (.sl (some (.g n)) x y)) fun _=>some (.sl none x y)) w x y) (fun w x y z=>j5 w (fun n=>some (.ms (.g n) x y z)) fun _=>none) (some .cY) (fun w=>j5 w (fun n=>some (.m (.g n))) fun _=>none) (fun _ _ _ _ _=>none) (some .eA) (fun _ _=>none) (fun _ _=>none) none none (fun _ _ _ _=>none) none (fun _ _ _ _=>none) v
noncomputable def nY (v:V):Option V:=V.rec (motive_1:=fun _=>Option V) (motive_2:=fun _=>Option V) (motive_3:=fun _=>Option V) (fun w=>some (.b w)) (fun w x=>some (.i w x)) (fun w=>some (.s w)) (some .dZ) (fun w x=>j5 w (fun n=>some (.p (.g n) x)) fun _=>none) (fun w x y z=>j5 w (fun n=>some (.pa (.g n) x y z)) fun _=>none) (fun _ _ _=>none) (some .bU) (fun w x y _=>(fun w x y=>aZ w (some (.sl none x y)) fun a=>j5 a (fun n=>some (.sl (some (.g n)) x y)) fun _=>some (.sl none x y)) w x y) (fun w x y z=>j5 w (fun n=>some (.ms (.g n) x y z)) fun _=>none) (some .cY) (fun w=>j5 w (fun n=>some (.m (.g n))) fun _=>none) (fun w x y _ _=>(fun w x y=>aZ (iV Ag x) none fun a=>aZ (iV Ag y) none fun c=>some (.fn w a c)) w x y) (some .eA) (fun w _=>(fun w=>aZ (iV Ag w) none fun x=>some (.agg x)) w) (fun _ _=>none) none none (fun _ _ _ _=>none) none (fun _ _ _ _=>none) v
noncomputable def A9 (v:V):Option V:=V.rec (motive_1:=fun _=>Option V) (motive_2:=fun _=>Option V) (motive_3:=fun _=>Option V) (fun w=>some (.b w)) (fun w x=>some (.i w x)) (fun w=>some (.s w)) none (fun _ _=>none) (fun _ _ _ _=>none) (fun _ _ _=>none) (some .bU) (fun w x y _=>(fun _ x y=>some (.sl none x y)) w x y) (fun _ _ _ _=>none) none (fun _=>none) (fun _ _ _ _ _=>none) none (fun _ _=>none) (fun _ _=>none) none none (fun _ _ _ _=>none) none (fun _ _ _ _=>none) v
noncomputable def gV (l:List V):Option (List V):=iV nY l
noncomputable def sI (l:List (List V)):Option (List (List V)):=iV (iV A9) l
noncomputable def FG (g:Bool) (l:List V):Option (List V):=aL g (gV l) (some l)
noncomputable def yK (g:Bool) (l:List (List V)):Option (List (List V)):=aL g (iV gV l) (some l)
noncomputable def wA (k:Key):Bool:=j5 k (fun _=>true) fun _=>false
open Go
abbrev Rf:=Nat->List V->Mem->Cz
abbrev Kz:=V->SM->Rz
abbrev Ot:=fM (Rf->Fc->SM->Kz->Rz)
abbrev Rg:=fM (Rf->Fc->SM->Rz)
noncomputable def aU (c:Bool) (k:Rz):Rz:=aL c k .none
noncomputable def asks {δ:Type} (o:Option δ) (k:δ->Rz):Rz:=aZ o .none k
noncomputable def cC (x:aV):fM (Fc->V):=aV.rec (motive:=fun _=>fM (Fc->V)) (fun n=>hU n) (fun v=>⟨fun _=>v⟩) x
noncomputable def DF (l:List aV):fM (Fc->List V):=List.rec (motive:=fun _=>fM (Fc->List V)) ⟨fun _=>[]⟩ (fun x _ ih=>⟨fun fr=>(cC x).run fr::ih.run fr⟩) l
noncomputable def j7 (x:Option aV):fM (Fc->Option V):=aZ x ⟨fun _=>none⟩ fun x=>⟨fun fr=>some ((cC x).run fr)⟩
noncomputable def Kj (x:List UInt8):List (List V):=List.rec (motive:=fun _=>List (List V)) [] (fun c _ ih=>[.i .u8 (.ofNat (u8N c))]::ih) x
noncomputable def Ah {δ:Type} (l m:List δ) (k:List δ->Rz):Rz:=List.rec (motive:=fun _=>(List δ->Rz)->Rz) (fun k=>k m) (fun a _ ih k=>ih fun r=>k (a::r)) l k
noncomputable def qY (st:SM) (key:Key) (sz:Nat) (k:List (List V)->Rz):Rz:=asks (st.look key) fun o=>A8 (fun _=>.none) (fun z es=>aU (Nat.beq z sz) (k es)) .none (fun _ _=>.none) o
noncomputable def Vr (st:SM) (key:Key) (k:List V->Rz):Rz:=asks (st.look key) fun o=>A8 k (fun _ _=>.none) .none (fun _ _=>.none) o
noncomputable def OV (st:SM) (key:Key) (k:Rz):Rz:=asks (st.look key) fun o=>A8 (fun _=>.none) (fun _ _=>.none) k (fun _ _=>.none) o
noncomputable def Kk (a b:Option IntKind):Bool:=aZ a (aZ b true fun _=>false) fun a=>aZ b false fun b=>lA a b
noncomputable def Sp (st:SM) (key:Key) (kd:Option IntKind) (k:List (V×V)->Rz):Rz:=asks (st.look key) fun o=>A8 (fun _=>.none) (fun _ _=>.none) .none (fun s0 es=>aU (Kk s0 kd) (k es)) o
noncomputable def qZ (sz:Nat) (st:SM) (v:V) (k:List (List V)->Rz):Rz:=
 vL .none (fun x=>aU (Nat.beq sz 1) (k (Kj x))) (k []) (fun _ z es=>aU (Nat.beq z sz) (k es)) (fun key z s n=>aU (Nat.beq z sz) (qY st key sz fun es=>aU (Nat.ble (Nat.add s n) (bY es)) (k (j6 (iU es s) n)))) v
noncomputable def yL (m:gI) (sz:Nat) (es:List (List V)) (st:SM) (k:Kz):Rz:=
 gI.rec (motive:=fun _=>Rz) (fun g=>asks (sI es) fun ds=>st.push g .spare fun key st=>k (.sl (some key) sz ds) st)
  (fun g=>asks (yK g es) fun ds=>st.push g (.arr sz ds) fun key st=>k (.ms key sz 0 (bY ds)) st)
  (asks (sI es) fun ds=>k (.sl none sz ds) st) m
noncomputable def yM (n bytes:Nat):Bool:=Nat.ble (Nat.mul n bytes) 140737488355328
noncomputable def BO (m:gI) (sz bytes:Nat) (st:SM) (s:V) (new:List (List V)) (k:Kz):Rz:=
 List.rec (motive:=fun _=>Rz) (vL .none (fun _=>.none) (k .bU st) (fun t z es=>aU (Nat.beq z sz) (k (.sl t sz es) st)) (fun a z o l=>aU (Nat.beq z sz) (k (.ms a sz o l) st)) s)
  (fun _ _ _=>vL .none (fun _=>.none) (aU (yM (bY new) bytes) (yL m sz new st k))
    (fun t z es=>aU (Nat.beq z sz)<|aU (yM (Nat.add (bY es) (bY new)) bytes)<|asks (sI new) fun ds=>asks t fun key=>OV st key<|st.drop key fun st=>st.push (wA key) .spare fun key st=>Ah es ds fun es=>k (.sl (some key) sz es) st)
    (fun key z off len=>aU (Nat.beq z sz)<|aU (yM (Nat.add len (bY new)) bytes)<|asks (yK (wA key) new) fun ds=>qY st key sz fun es=>aU (Nat.ble (Nat.add off len) (bY es))<|
      aL (Nat.ble (Nat.add (Nat.add off len) (bY ds)) (bY es))
       (Ah (pV (j6 es (Nat.add off len)) ds) (iU es (Nat.add (Nat.add off len) (bY ds))) fun es=>st.set key (.arr sz es) fun st=>k (.ms key sz off (Nat.add len (bY ds))) st)
       (st.drop key fun st=>Ah (iU (j6 es (Nat.add off len)) off) ds fun es=>st.push (wA key) (.arr sz es) fun key st=>k (.ms key sz 0 (Nat.add len (bY ds))) st)) s) new
noncomputable def Ba (cs:List V) (off n:Nat):Bool:=aL (Nat.beq n 0) (Nat.ble off (bY cs)) (aZ (fU cs (Nat.sub (Nat.add off n) 1)) false fun _=>true)
noncomputable def sJ (x:Int) (k:Nat->Rz):Rz:=iC k (fun _=>.none) x
noncomputable def q0 (x y:V):Bool:=Vo false (fun k a=>eG false (fun k' b=>aL (lA k k') (HP a b) false) y) (fun a=>jD false (fun b=>BN a b) y) x
noncomputable def q7 (kd:Option IntKind) (v:V):Bool:=aZ kd (jD false (fun _=>true) v) fun k=>eG false (fun k' _=>lA k k') v
noncomputable def BP (x:V) (l:List (V×V)):Option V:=List.rec (motive:=fun _=>Option V) none (fun q _ ih=>aL (q0 x q.1) (some q.2) ih) l
noncomputable def GA (x v:V) (l:List (V×V)):List (V×V):=List.rec (motive:=fun _=>List (V×V)) [(x,v)] (fun q r ih=>aL (q0 x q.1) ((x,v)::r) (q::ih)) l
noncomputable def GB (x:V) (l:List (V×V)):List (V×V):=List.rec (motive:=fun _=>List (V×V)) [] (fun q r ih=>aL (q0 x q.1) r (q::ih)) l
noncomputable def iK (kd:IntKind) (n:Int) (k:V->Rz):Rz:=iC (fun a=>nX a fun a=>k (.i kd (.ofNat a))) (fun a=>k (.i kd (.negSucc a))) n
noncomputable def Sq (op:BinOp):fM (IntKind->IntKind->Int->Int->(V->Rz)->Rz):=
 BinOp.rec (motive:=fun _=>fM (IntKind->IntKind->Int->Int->(V->Rz)->Rz))
  ⟨fun k k' a c r=>aU (lA k k') (iK k (wr k (Sn a c)) r)⟩ ⟨fun k k' a c r=>aU (lA k k') (iK k (wr k (Vp a c)) r)⟩ ⟨fun k k' a c r=>aU (lA k k') (iK k (wr k (Vq a c)) r)⟩
  ⟨fun k k' a c r=>aU (lA k k') (aU (gF (HP c 0)) (iK k (k.wrap (a.tdiv c)) r))⟩ ⟨fun k k' a c r=>aU (lA k k') (aU (gF (HP c 0)) (iK k (a.tmod c) r))⟩
  ⟨fun k k' a c r=>aU (lA k k') (iK k (k.wrap ((BitVec.ofInt k.bits a&&&BitVec.ofInt k.bits c).toNat)) r)⟩ ⟨fun k k' a c r=>aU (lA k k') (iK k (k.wrap ((BitVec.ofInt k.bits a|||BitVec.ofInt k.bits c).toNat)) r)⟩ ⟨fun k k' a c r=>aU (lA k k') (iK k (k.wrap ((BitVec.ofInt k.bits a ^^^ BitVec.ofInt k.bits c).toNat)) r)⟩
  ⟨fun k _ a c r=>aU (gF (ET c 0)) (iK k (k.wrap (a*2 ^ (min c.toNat k.bits))) r)⟩ ⟨fun k _ a c r=>aU (gF (ET c 0)) (iK k (a.fdiv (2 ^ (min c.toNat k.bits))) r)⟩
  ⟨fun k k' a c r=>aU (lA k k') (iK k (k.wrap ((BitVec.ofInt k.bits a&&&~~~ (BitVec.ofInt k.bits c)).toNat)) r)⟩
  ⟨fun k k' a c r=>aU (lA k k') (r (.b (HP a c)))⟩ ⟨fun k k' a c r=>aU (lA k k') (r (.b (gF (HP a c))))⟩
  ⟨fun k k' a c r=>aU (lA k k') (r (.b (ET a c)))⟩ ⟨fun k k' a c r=>aU (lA k k') (r (.b (gF (ET c a))))⟩ ⟨fun k k' a c r=>aU (lA k k') (r (.b (ET c a)))⟩ ⟨fun k k' a c r=>aU (lA k k') (r (.b (gF (ET a c))))⟩ op
noncomputable def Sr (op:BinOp):fM (List UInt8->List UInt8->(V->Rz)->Rz):=
 BinOp.rec (motive:=fun _=>fM (List UInt8->List UInt8->(V->Rz)->Rz))
  ⟨fun a c r=>aU (Nat.ble (Nat.add (bY a) (bY c)) 9223372036854775807) (Ah a c fun x=>r (.s x))⟩ ⟨fun _ _ _=>.none⟩ ⟨fun _ _ _=>.none⟩ ⟨fun _ _ _=>.none⟩ ⟨fun _ _ _=>.none⟩ ⟨fun _ _ _=>.none⟩ ⟨fun _ _ _=>.none⟩ ⟨fun _ _ _=>.none⟩ ⟨fun _ _ _=>.none⟩ ⟨fun _ _ _=>.none⟩ ⟨fun _ _ _=>.none⟩
  ⟨fun a c r=>r (.b (BN a c))⟩ ⟨fun a c r=>r (.b (gF (BN a c)))⟩ ⟨fun a c r=>r (.b (EU a c))⟩ ⟨fun a c r=>r (.b (aL (EU a c) true (BN a c)))⟩ ⟨fun a c r=>r (.b (gF (aL (EU a c) true (BN a c))))⟩ ⟨fun a c r=>r (.b (gF (EU a c)))⟩ op
noncomputable def Kl (row:Bool) (v:V) (k:List V->Rz):Rz:=aL row (vA .none k v) (X9 .none k v)
noncomputable def OW (l:List aV):fM (Fc->(List V->Rz)->Rz):=List.rec (motive:=fun _=>fM (Fc->(List V->Rz)->Rz)) ⟨fun _ k=>k []⟩ (fun x _ ih=>⟨fun fr k=>vK (fun v=>ih.run fr fun r=>k (v::r)) ((cC x).run fr)⟩) l
noncomputable def BQ (k:CK) (x y:V):Option Bool:=CK.rec (motive:=fun _=>Option Bool) (vB none (fun a=>vB none (fun b=>some (aL a b (gF b))) y) x) (eG none (fun k a=>eG none (fun k' b=>aL (lA k k') (some (HP a b)) none) y) x) (jD none (fun a=>jD none (fun b=>some (BN a b)) y) x) k
noncomputable def sK (ks:List CK):List V->List V->Option Bool:=List.rec (motive:=fun _=>List V->List V->Option Bool) (fun x y=>List.rec (motive:=fun _=>Option Bool) (List.rec (motive:=fun _=>Option Bool) (some true) (fun _ _ _=>none) y) (fun _ _ _=>none) x)
 (fun k _ ih x y=>List.rec (motive:=fun _=>Option Bool) none (fun a r _=>List.rec (motive:=fun _=>Option Bool) none (fun b q _=>aZ (BQ k a b) none fun e=>aZ (ih r q) none fun f=>some (aL e f false)) y) x) ks
noncomputable def OX (neg:Bool) (x y:V) (k:V->Rz):Rz:=
 Z2 .none (X7 .none (k (.b (gF neg))) (fun _ _=>k (.b neg)) (fun _ _ _ _=>k (.b neg)) x)
  (vL .none (fun _=>.none) (k (.b (gF neg))) (fun t _ es=>aZ t (List.rec (motive:=fun _=>Rz) .none (fun _ _ _=>k (.b neg)) es) fun _=>k (.b neg)) (fun _ _ _ _=>k (.b neg)) x)
  (vM .none (k (.b (gF neg))) (fun _=>k (.b neg)) x) (X8 .none (k (.b (gF neg))) (fun _ _ _=>k (.b neg)) x) y
noncomputable def FH (ps:List (Nat×Nat×aV)) (fr:Fc) (cs:List V) (k:List V->Rz):Rz:=List.rec (motive:=fun _=>List V->Rz) k (fun q _ ih cs=>vC .none (fun vs=>aU (Nat.beq (bY vs) q.2.1) (aU (Nat.ble (Nat.add q.1 q.2.1) (bY cs)) (spell (mM cs q.1 vs) ih))) ((cC q.2.2).run fr)) ps cs
noncomputable def FI (ps:List (Nat×aV)) (sz:Nat) (fr:Fc) (es:List (List V)) (k:List (List V)->Rz):Rz:=List.rec (motive:=fun _=>List (List V)->Rz) k (fun q _ ih es=>vC .none (fun vs=>aU (Nat.beq (bY vs) sz) (aU (Nat.ble (Nat.succ q.1) (bY es)) (spell (HO es q.1 vs) ih))) ((cC q.2).run fr)) ps es
noncomputable def wB (o:Option V) (n:Nat) (k:Nat->Rz):Rz:=aZ o (k n) fun v=>eG .none (fun _ j=>sJ j k) v
noncomputable def W3 (max:Bool) (l:List V):V->Option V:=List.rec (motive:=fun _=>V->Option V) (fun v=>some v) (fun w _ ih v=>eG none (fun k x=>eG none (fun _ y=>ih (.i k (aL max (aL (ET x y) y x) (aL (ET y x) y x)))) w) v) l
noncomputable def tK (l:List (List V)):Option (List UInt8):=List.rec (motive:=fun _=>Option (List UInt8)) (some []) (fun e _ ih=>List.rec (motive:=fun _=>Option (List UInt8)) none (fun v r _=>List.rec (motive:=fun _=>Option (List UInt8)) (eG none (fun k n=>aL (lA k .u8) (aZ ih none fun y=>some (UInt8.ofNat n.toNat::y)) none) v) (fun _ _ _=>none) r) e) l
noncomputable def DG (rf:Rf) (f:Nat) (vs:List V) (st:SM) (k:Kz):Rz:=st.Rk fun gn g ln l=>Cz.rec (motive:=fun _=>Rz) .none (fun v m=>Mem.rec (motive:=fun _=>Rz) (fun gn g=>k v (.mk gn g ln l)) m) (rf f vs (.mk gn g))
noncomputable def jI (o:pQ):Ot:=
 pQ.rec (motive:=fun _=>Ot)
  (fun x=>⟨fun _ fr st k=>vK (fun v=>k v st) ((cC x).run fr)⟩)
  (fun x=>⟨fun _ fr st k=>vK (fun v=>k v st) ((cC x).run fr)⟩)
  (fun c a d=>⟨fun _ fr st k=>vB .none (fun b=>aL b (vK (fun v=>k v st) ((cC a).run fr)) (vK (fun v=>k v st) ((cC d).run fr))) ((cC c).run fr)⟩)
  (fun g z=>⟨fun _ _ st k=>st.push g (.cs z) fun key st=>k (.p key 0) st⟩)
  (fun g x=>⟨fun _ fr st k=>vC .none (fun cs=>asks (FG g cs) fun c=>st.push g (.cs c) fun key st=>k (.p key 0) st) ((cC x).run fr)⟩)
  (fun z ps=>⟨fun _ fr st k=>FH ps fr z fun cs=>k (.agg cs) st⟩)
  (fun m sz len z ps=>⟨fun _ fr st k=>FI ps sz fr (FF len z) fun es=>yL m sz es st k⟩)
  (fun n a=>⟨fun _ fr st k=>vP .none (fun key off=>Vr st key fun c=>asks (Gz c off n) fun v=>k v st) (fun key sz ix off=>qY st key sz fun es=>asks (fU es ix) fun e=>asks (Gz e off n) fun v=>k v st) (fun cs off=>asks (Gz cs off n) fun v=>k v st) ((cC a).run fr)⟩)
  (fun n a x=>⟨fun _ fr st k=>vC .none (fun cs=>aU (Nat.beq (bY cs) n) (vP .none (fun key off=>asks (FG (wA key) cs) fun vs=>Vr st key fun c=>aU (Ba c off n) (spell (mM c off vs) fun c=>st.set key (.cs c) fun st=>k (.bO []) st))
    (fun key sz ix off=>asks (FG (wA key) cs) fun vs=>qY st key sz fun es=>asks (fU es ix) fun e=>aU (Ba e off n) (spell (mM e off vs) fun e=>spell (HO es ix e) fun es=>st.set key (.arr sz es) fun st=>k (.bO []) st)) (fun _ _=>.none) ((cC a).run fr))) ((cC x).run fr)⟩)
  (fun x=>⟨fun _ fr st k=>vQ .none (fun a o=>k (.p a o) st) (fun a z i o=>k (.pa a z i o) st) (fun c o=>k (.pc c o) st) (fun f a c=>k (.fn f a c) st) ((cC x).run fr)⟩)
  (fun op x y=>⟨fun _ fr st k=>Vo .none (fun kd a=>eG .none (fun s0 c=>(Sq op).run kd s0 a c fun v=>k v st) ((cC y).run fr)) (fun a=>jD .none (fun c=>(Sr op).run a c fun v=>k v st) ((cC y).run fr)) ((cC x).run fr)⟩)
  (fun row ks neg x y=>⟨fun _ fr st k=>Kl row ((cC x).run fr) fun cs=>Kl row ((cC y).run fr) fun ds=>asks (sK ks cs ds) fun r=>k (.b (aL neg (gF r) r)) st⟩)
  (fun neg x y=>⟨fun _ fr st k=>OX neg ((cC x).run fr) ((cC y).run fr) fun v=>k v st⟩)
  (fun op x=>UnOp.rec (motive:=fun _=>Ot) ⟨fun _ fr st k=>eG .none (fun kd n=>iK kd (kd.wrap (0 - n)) fun v=>k v st) ((cC x).run fr)⟩ ⟨fun _ _ _ _=>.none⟩ ⟨fun _ fr st k=>vB .none (fun b=>k (.b (gF b)) st) ((cC x).run fr)⟩ ⟨fun _ _ _ _=>.none⟩ op)
  (fun kd x=>⟨fun _ fr st k=>eG .none (fun _ n=>iK kd (wr kd n) fun v=>k v st) ((cC x).run fr)⟩)
  (fun x=>⟨fun _ fr st k=>jD .none (fun y=>k (.s y) st) ((cC x).run fr)⟩)
  (fun m x=>⟨fun _ fr st k=>jD .none (fun y=>yL m 1 (Kj y) st k) ((cC x).run fr)⟩)
  (fun x=>⟨fun _ fr st k=>vL .none (fun _=>.none) .none (fun t sz es=>asks t fun key=>OV st key (k (.sl (some key) sz es) st)) (fun key sz off len=>asks (st.look key) fun o=>A8 (fun _=>.none) (fun z _=>aU (Nat.beq z 1) (k (.ms key sz off len) st)) .none (fun _ _=>.none) o) ((cC x).run fr)⟩)
  (fun x=>⟨fun _ fr st k=>qZ 1 st ((cC x).run fr) fun es=>asks (tK es) fun y=>k (.s y) st⟩)
  (fun f cap=>⟨fun _ fr st k=>(OW cap).run fr fun c=>k (.fn f [] c) st⟩)
  (fun g kd=>⟨fun _ _ st k=>st.push g (.mp kd []) fun key st=>k (.m key) st⟩)
  (fun m sz bytes z l c=>⟨fun _ fr st k=>eG .none (fun _ a=>eG .none (fun _ d=>sJ a fun n=>sJ d fun n'=>aU (Nat.beq n n') (aU (yM n bytes) (yL m sz (FF n z) st k))) ((cC c).run fr)) ((cC l).run fr)⟩)
  (fun x lo hi=>⟨fun _ fr st k=>jD .none (fun y=>wB ((j7 hi).run fr) (bY y) fun h=>wB ((j7 lo).run fr) 0 fun l=>aU (Nat.ble l h) (aU (Nat.ble h (bY y)) (k (.s (iU (j6 y h) l)) st))) ((cC x).run fr)⟩)
  (fun sz x lo hi mx=>aZ mx ⟨fun _ fr st k=>vL .none (fun _=>.none) (wB ((j7 hi).run fr) 0 fun h=>wB ((j7 lo).run fr) 0 fun l=>aU (Nat.beq l 0) (aU (Nat.beq h 0) (k .bU st)))
    (fun t z es=>aU (Nat.beq z sz) (aZ hi (wB ((j7 lo).run fr) 0 fun l=>aU (Nat.ble l (bY es)) (k (.sl t sz (iU es l)) st)) fun _=>wB ((j7 hi).run fr) 0 fun h=>wB ((j7 lo).run fr) 0 fun l=>aU (Nat.ble l h) (aU (Nat.ble h (bY es)) (k (.sl none sz (iU (j6 es h) l)) st))))
    (fun key z off len=>aU (Nat.beq z sz) (wB ((j7 hi).run fr) len fun h=>wB ((j7 lo).run fr) 0 fun l=>qY st key sz fun es=>aU (Nat.ble l h) (aU (Nat.ble (Nat.add off h) (bY es)) (k (.ms key sz (Nat.add off l) (Nat.sub h l)) st)))) ((cC x).run fr)⟩ fun mo=>⟨fun _ fr st k=>vL .none (fun _=>.none) .none (fun _ _ _=>.none) (fun key z off len=>aU (Nat.beq z sz) (wB ((j7 hi).run fr) len fun h=>wB ((j7 lo).run fr) 0 fun l=>qY st key sz fun es=>wB (some ((cC mo).run fr)) 0 fun mx=>aU (Nat.ble l h) (aU (Nat.ble h mx) (aU (Nat.ble (Nat.add off mx) (bY es)) (k .a8 st))))) ((cC x).run fr)⟩)
  (fun off x=>⟨fun _ fr st k=>vP .none (fun a o=>k (.p a (Nat.add o off)) st) (fun a z i o=>k (.pa a z i (Nat.add o off)) st) (fun c o=>k (.pc c (Nat.add o off)) st) ((cC x).run fr)⟩)
  (fun off n x=>⟨fun _ fr st k=>vA .none (fun cs=>asks (Gz cs off n) fun v=>k v st) ((cC x).run fr)⟩)
  (fun sz x i=>⟨fun _ fr st k=>eG .none (fun _ n=>sJ n fun n=>vL .none (fun _=>.none) .none (fun _ z es=>aU (Nat.beq z sz) (asks (fU es n) fun e=>k (.pc e 0) st)) (fun a z off len=>aU (Nat.beq z sz) (aU (Nat.ble (Nat.succ n) len) (k (.pa a sz (Nat.add off n) 0) st))) ((cC x).run fr)) ((cC i).run fr)⟩)
  (fun len sz x i=>⟨fun _ fr st k=>eG .none (fun _ n=>sJ n fun n=>aU (Nat.ble (Nat.succ n) len) (vP .none (fun a o=>k (.p a (Nat.add o (Nat.mul n sz))) st) (fun a z j o=>k (.pa a z j (Nat.add o (Nat.mul n sz))) st) (fun c o=>k (.pc c (Nat.add o (Nat.mul n sz))) st) ((cC x).run fr))) ((cC i).run fr)⟩)
  (fun x i=>⟨fun _ fr st k=>jD .none (fun y=>eG .none (fun _ n=>sJ n fun n=>asks (fU y n) fun c=>k (.i .u8 (.ofNat (u8N c))) st) ((cC i).run fr)) ((cC x).run fr)⟩)
  (fun len sz n x i=>⟨fun _ fr st k=>vA .none (fun cs=>eG .none (fun _ j=>sJ j fun j=>aU (Nat.ble (Nat.succ j) len) (asks (Gz cs (Nat.mul j sz) n) fun v=>k v st)) ((cC i).run fr)) ((cC x).run fr)⟩)
  (fun kd z m key ok=>⟨fun _ fr st k=>aU (q7 kd ((cC key).run fr)) (vM .none (k (aL ok (.bO [z,.b false]) z) st) (fun a=>Sp st a kd fun es=>aZ (BP ((cC key).run fr) es) (k (aL ok (.bO [z,.b false]) z) st) fun v=>aL ok (k (.bO [v,.b true]) st) (k v st)) ((cC m).run fr))⟩)
  (fun kd m key v=>⟨fun _ fr st k=>aU (q7 kd ((cC key).run fr)) (vM .none .none (fun a=>Sp st a kd fun es=>vK (fun v=>asks (aL (wA a) (nY v) (some v)) fun u=>spell (GA ((cC key).run fr) u es) fun es=>st.set a (.mp kd es) fun st=>k (.bO []) st) ((cC v).run fr)) ((cC m).run fr))⟩)
  (fun x i=>⟨fun _ fr st k=>vT .none (fun vs=>asks (fU vs i) fun v=>k v st) ((cC x).run fr)⟩)
  (fun f args=>⟨fun rf fr st k=>asks (gV ((DF args).run fr)) fun vs=>DG rf f vs st k⟩)
  (fun f args=>⟨fun rf fr st k=>vF .none (fun g first cap=>asks (gV (pV first (pV ((DF args).run fr) cap))) fun vs=>DG rf g vs st k) ((cC f).run fr)⟩)
  (fun x=>⟨fun _ fr st k=>jD .none (fun y=>k (.i .i64 (.ofNat (bY y))) st) ((cC x).run fr)⟩)
  (fun x=>⟨fun _ fr st k=>vL .none (fun _=>.none) (k (.i .i64 0) st) (fun _ _ es=>k (.i .i64 (.ofNat (bY es))) st) (fun _ _ _ n=>k (.i .i64 (.ofNat n)) st) ((cC x).run fr)⟩)
  (fun n=>⟨fun _ _ st k=>k (.i .i64 (.ofNat n)) st⟩)
  (fun x=>⟨fun _ fr st k=>vM .none (k (.i .i64 0) st) (fun a=>asks (st.look a) fun o=>A8 (fun _=>.none) (fun _ _=>.none) .none (fun _ es=>k (.i .i64 (.ofNat (bY es))) st) o) ((cC x).run fr)⟩)
  (fun max xs=>⟨fun _ fr st k=>List.rec (motive:=fun _=>Rz) .none (fun v r _=>asks (W3 max r v) fun v=>k v st) ((DF xs).run fr)⟩)
  (fun m sz bytes s x=>⟨fun _ fr st k=>qZ sz st ((cC x).run fr) fun new=>BO m sz bytes st ((cC s).run fr) new k⟩)
  (fun sz d x=>⟨fun _ fr st k=>qZ sz st ((cC x).run fr) fun src=>vL .none (fun _=>.none) .none (fun _ _ _=>.none) (fun key z off len=>aU (Nat.beq z sz) (asks (yK (wA key) (j6 src len)) fun ds=>qY st key sz fun es=>aU (Nat.ble (Nat.add off len) (bY es)) (Ah (pV (j6 es off) ds) (iU es (Nat.add off (bY ds))) fun es=>st.set key (.arr sz es) fun st=>k (.i .i64 (.ofNat (bY ds))) st))) ((cC d).run fr)⟩)
  (fun kd m key=>⟨fun _ fr st k=>aU (q7 kd ((cC key).run fr)) (vM .none (k (.bO []) st) (fun a=>Sp st a kd fun es=>spell (GB ((cC key).run fr) es) fun es=>st.set a (.mp kd es) fun st=>k (.bO []) st) ((cC m).run fr))⟩)
  (fun sz z x=>⟨fun _ fr st k=>vL .none (fun _=>.none) (k (.bO []) st) (fun _ _ _=>.none) (fun key zz off len=>aU (Nat.beq zz sz) (qY st key sz fun es=>aU (Nat.ble (Nat.add off len) (bY es)) (Ah (pV (j6 es off) (FF len z)) (iU es (Nat.add off len)) fun es=>st.set key (.arr sz es) fun st=>k (.bO []) st))) ((cC x).run fr)⟩)
  ⟨fun _ _ _ _=>.none⟩ o
noncomputable def lB (dst:Option Nat) (kill:List Nat):fM (V->Fc->(Fc->Rz)->Rz):=
 List.rec (motive:=fun _=>fM (V->Fc->(Fc->Rz)->Rz)) (aZ dst ⟨fun _ fr k=>k fr⟩ fun d=>⟨fun v fr k=>(FE d Rz.none).run fr v k⟩) (fun _ _ _=>⟨fun _ _ _=>.none⟩) kill
noncomputable def yN (g:Option (Nat×Bool)):fM (Fc->Rz->Rz->Rz):=aZ g ⟨fun _ y _=>y⟩ fun q=>⟨fun fr y n=>vG .none (fun x=>aL (aL q.2 x (gF x)) y n) (fun _=>n) ((hU q.1).run fr)⟩
noncomputable def q8 (ops:List cD):Rg:=List.rec (motive:=fun _=>Rg) ⟨fun _ fr st=>.sH fr st⟩
 (fun o _ ih=>aZ o.guard ⟨fun rf fr st=>(jI o.op).run rf fr st fun v st=>(lB o.dst o.kill).run v fr fun fr=>ih.run rf fr st⟩
   fun g=>⟨fun rf fr st=>(yN (some g)).run fr ((jI o.op).run rf fr st fun v st=>(lB o.dst o.kill).run v fr fun fr=>ih.run rf fr st) ((lB o.dst o.kill).run (.bO []) fr fun fr=>ih.run rf fr st)⟩) ops
noncomputable def tL (a b:Key):Bool:=j5 a (fun n=>j5 b (fun m=>Nat.beq n m) fun _=>false) fun n=>j5 b (fun _=>false) fun m=>Nat.beq n m
noncomputable def Uh (v u:V):Bool:=vB (Vo (vP (V.beq v u) (fun a o=>vP false (fun b j=>aL (tL a b) (Nat.beq o j) false) (fun _ _ _ _=>false) (fun _ _=>false) u) (fun _ _ _ _=>V.beq v u) (fun _ _=>V.beq v u) v)
 (fun k n=>eG false (fun j m=>aL (lA k j) (HP n m) false) u) (fun a=>jD false (fun b=>BN a b) u) v) (fun a=>vB false (fun b=>aL a b (gF b)) u) v
noncomputable def BR (re:List Nat) (done:List aF):fM (Rf->Fc->SM->Rz->Rz):=List.rec (motive:=fun _=>fM (Rf->Fc->SM->Rz->Rz)) ⟨fun _ _ _ k=>k⟩
 (fun p _ ih=>aL (Gy p.ix re) ⟨fun rf fr st k=>(yN p.o.guard).run fr ((jI p.o.op).run rf fr st fun v _=>aZ p.o.dst (ih.run rf fr st k) fun d=>aU (Uh ((hU d).run fr) v) (ih.run rf fr st k)) (ih.run rf fr st k)⟩ ih) done
noncomputable def Km (kill:List Nat) (ds:List aF):List aF->Rg:=List.rec (motive:=fun _=>List aF->Rg) (fun _=>List.rec (motive:=fun _=>Rg) ⟨fun _ fr st=>.sH fr st⟩ (fun _ _ _=>⟨fun _ _ _=>.none⟩) kill)
 (fun d _ ih done=>⟨fun rf fr st=>(yN d.o.guard).run fr ((jI d.o.op).run rf fr st fun v st=>(lB d.o.dst []).run v fr fun fr=>(BR d.re done).run rf fr st ((ih (d::done)).run rf fr st)) ((lB d.o.dst []).run (.bO []) fr fun fr=>(ih (d::done)).run rf fr st)⟩) ds
noncomputable def mU (r:Rz) (k:Fc->SM->Rz):Rz:=Rz.rec (motive:=fun _=>Rz) .none k .exit .ret r
def DH:Nat:=1000000
@[irreducible] noncomputable def uU (gc:fM (Fc->SM->(SM->Rz)->Rz)) (b:Rg) (rf:Rf) (n:Nat):Fc->SM->Rz:=Nat.rec (motive:=fun _=>Fc->SM->Rz) (fun _ _=>.none) (fun _ ih fr st=>gc.run fr st fun st=>mU (b.run rf fr st) ih) n
noncomputable def cN (gc:fM (Fc->SM->(SM->Rz)->Rz)) (c:AC):Rg:=AC.rec (motive:=fun _=>Rg)
 ⟨fun _ fr st=>.sH fr st⟩ (fun ops=>q8 ops) (fun ds kill=>Km kill ds [])
 (fun _ _ a b=>⟨fun rf fr st=>mU (a.run rf fr st) fun fr st=>b.run rf fr st⟩)
 (fun c _ _ a b=>⟨fun rf fr st=>vB .none (fun x=>aL x (a.run rf fr st) (b.run rf fr st)) ((cC c).run fr)⟩)
 (fun id _ b=>⟨fun rf fr st=>Rz.rec (motive:=fun _=>Rz) .none .sH (fun Ad fr st=>aL (Nat.beq Ad id) (.sH fr st) (.exit Ad fr st)) .ret (b.run rf fr st)⟩)
 (fun _ b=>⟨fun rf fr st=>uU gc b rf DH fr st⟩)
 (fun id=>⟨fun _ fr st=>.exit id fr st⟩) ⟨fun _ fr st=>.ret fr st⟩ ⟨fun _ _ _=>.none⟩ c
noncomputable def fF:fM (Fc->SM->(SM->Rz)->Rz):=⟨fun _ st k=>k st⟩
noncomputable def Rl (args:List V):Nat->Fc->(Fc->Rz)->Rz:=List.rec (motive:=fun _=>Nat->Fc->(Fc->Rz)->Rz) (fun _ f k=>k f) (fun v _ ih n f k=>(FE n Rz.none).run f v fun f=>ih (Nat.add n 1) f k) args
noncomputable def Ss (r:RV):fM (Fc->SM->Option V):=RV.rec (motive:=fun _=>fM (Fc->SM->Option V)) (fun n=>⟨fun fr _=>nY ((hU n).run fr)⟩)
 (fun n sz=>⟨fun fr st=>vP none (fun key off=>aZ (st.look key) none fun o=>A8 (fun c=>aZ (Gz c off sz) none nY) (fun _ _=>none) none (fun _ _=>none) o) (fun _ _ _ _=>none) (fun _ _=>none) ((hU n).run fr)⟩) r
noncomputable def Kn (rs:List RV):fM (Fc->SM->Option (List V)):=List.rec (motive:=fun _=>fM (Fc->SM->Option (List V))) ⟨fun _ _=>some []⟩ (fun r _ ih=>⟨fun fr st=>aZ ((Ss r).run fr st) none fun v=>aZ (ih.run fr st) none fun vs=>some (v::vs)⟩) rs
noncomputable def Su (l:List V):V:=List.rec (motive:=fun _=>V) (.bO []) (fun v r _=>List.rec (motive:=fun _=>V) v (fun _ _ _=>.bO l) r) l
noncomputable def BS (rs:List RV):fM (Fc->SM->Cz):=⟨fun fr st=>aZ ((Kn rs).run fr st) .none fun vs=>st.Rk fun gn g _ _=>.some (Su vs) (.mk gn g)⟩
noncomputable def Vs (gc:fM (Fc->SM->(SM->Rz)->Rz)) (F:aC):fM (Rf->List V->Mem->Cz):=
 ⟨fun rf args m=>aL (Nat.beq (bY args) F.nparams) (Mem.rec (motive:=fun _=>Cz) (fun gn g=>Rz.rec (motive:=fun _=>Cz) .none (fun fr st=>(BS F.results).run fr st) (fun _ _ _=>.none) (fun fr st=>(BS F.results).run fr st) (Rl args 0 HN fun f=>(cN gc F.body).run rf f (.mk gn g 0 .nil))) m) .none⟩
noncomputable def ent (fns:Nat->Option aC) (Ko:Nat->Option (fM (Rf->List V->Mem->Cz))) (gc:Nat->fM (Fc->SM->(SM->Rz)->Rz)) (f:Nat):fM (Rf->List V->Mem->Cz):=
 aZ (Ko f) (aZ (fns f) ⟨fun _ _ _=>.none⟩ fun F=>Vs (gc f) F) fun c=>c
noncomputable def Sv (fns:Nat->Option aC) (Ko:Nat->Option (fM (Rf->List V->Mem->Cz))) (gc:Nat->fM (Fc->SM->(SM->Rz)->Rz)) (n:Nat):Rf:=Nat.rec (motive:=fun _=>Rf) (fun _ _ _=>.none) (fun _ ih f args m=>(ent fns Ko gc f).run ih args m) n
open Go
theorem cZ {n m:Nat}:Nat.beq n m=decide (n=m):=by
 by_cases h:n=m
 · subst h;simp
 · have:Nat.beq n m=false:=by
    cases hb:Nat.beq n m with
    |true=>exact absurd (Nat.eq_of_beq_eq_true hb) h
    |false=>rfl
   rw [this,decide_eq_false h]
theorem bZ {n m:Nat}:Nat.ble n m=decide (n<=m):=by
 by_cases h:n<=m
 · rw [decide_eq_true h];exact Nat.ble_eq_true_of_le h
 · rw [decide_eq_false h]
   cases hb:Nat.ble n m with
   |true=>exact absurd (Nat.le_of_ble_eq_true hb) h
   |false=>rfl
section
variable {α:Type}
theorem tM (t e:α):aL true t e=t:=rfl
theorem gW (t e:α):aL false t e=e:=rfl
theorem bM (c:Bool) (t e:α):aL c t e=if c=true then t else e:=by cases c<;>rfl
theorem gX (n:Nat) (k:Nat->α):nX n k=k n:=by cases n<;>rfl
theorem bP (b:Nat) (w x y z:α):eI b w x y z=if b%4=0 then w else if b%4=1 then x else if b%4=2 then y else z:=by
 unfold eI
 rw [show Nat.mod b 4=b%4 from rfl]
 generalize b%4=n
 rcases n with _|_|_|n<;>simp<;>rfl
theorem BU {n:Nat} (h:n<8):n=0\/n=1\/n=2\/n=3\/n=4\/n=5\/n=6\/n=7:=by omega
theorem Kq {i:Nat} (hi:i<8) (f:Fa) (x:V):∃ f':Fa,(∀ (α:Type) (k:Fa->α),(Kg i).run f x k=k f')/\∀ j,j<8->(Gx j).run f'=if j=i then x else (Gx j).run f:=by
 cases f
 rcases BU hi with h|h|h|h|h|h|h|h<;>subst h
 all_goals refine ⟨_,fun α k=>rfl,fun j hj=>?_⟩;rcases BU hj with h|h|h|h|h|h|h|h<;>subst h<;>rfl
theorem Kr {i:Nat} (hi:i<8) (f:Fb) (x:Fa):∃ f':Fb,(∀ (α:Type) (k:Fb->α),(Kh i).run f x k=k f')/\∀ j,j<8->(yJ j).run f'=if j=i then x else (yJ j).run f:=by
 cases f
 rcases BU hi with h|h|h|h|h|h|h|h<;>subst h
 all_goals refine ⟨_,fun α k=>rfl,fun j hj=>?_⟩;rcases BU hj with h|h|h|h|h|h|h|h<;>subst h<;>rfl
theorem Ks {i:Nat} (hi:i<8) (f:Fc) (x:Fb):∃ f':Fc,(∀ (α:Type) (k:Fc->α),(Ki i).run f x k=k f')/\∀ j,j<8->(qC j).run f'=if j=i then x else (qC j).run f:=by
 cases f
 rcases BU hi with h|h|h|h|h|h|h|h<;>subst h
 all_goals refine ⟨_,fun α k=>rfl,fun j hj=>?_⟩;rcases BU hj with h|h|h|h|h|h|h|h<;>subst h<;>rfl
theorem BV {n:Nat} (h:n<512) (f:Fc):(hU n).run f=(Gx (n%8)).run ((yJ (n/8%8)).run ((qC (n/64)).run f)):=by
 unfold hU
 rw [bM,bZ,if_pos (decide_eq_true (by omega))]
 rfl
theorem yO {n:Nat} (h:¬n<512) (f:Fc):(hU n).run f=.a8:=by
 unfold hU
 rw [bM,bZ,if_neg (fun e=>h (by have:=of_decide_eq_true e;omega))]
theorem BW {n:Nat} {no:α} {f:Fc} {v:V} {k:Fc->α} {r:α} (h:(FE n no).run f v k=r) (hr:r≠no):∃ f',k f'=r/\∀ m,(hU m).run f'=if m=n then v else (hU m).run f:=by
 unfold FE at h
 rw [bM] at h
 split at h
 case isFalse=>exact absurd h.symm hr
 rename_i hn
 have hn:n<512:=by rw [bZ] at hn;have:=of_decide_eq_true hn;omega
 have d1:n%8<8:=Nat.mod_lt _ (by omega)
 have d2:n/8%8<8:=Nat.mod_lt _ (by omega)
 have d3:n/64<8:=by omega
 obtain ⟨a',ea,ga⟩:=Kq d1 ((yJ (n/8%8)).run ((qC (n/64)).run f)) v
 obtain ⟨b',eb,gb⟩:=Kr d2 ((qC (n/64)).run f) a'
 obtain ⟨c',ec,gc⟩:=Ks d3 f b'
 replace h:(Kg (n%8)).run ((yJ (n/8%8)).run ((qC (n/64)).run f)) v (fun a=>(Kh (n/8%8)).run ((qC (n/64)).run f) a fun b=>(Ki (n/64)).run f b k)=r:=h
 rw [ea,eb,ec] at h
 refine ⟨c',h,fun m=>?_⟩
 by_cases hm:m<512
 · rw [BV hm,BV hm,gc _ (by omega)]
   by_cases e3:m/64=n/64
   · rw [if_pos e3,gb _ (Nat.mod_lt _ (by omega))]
     by_cases e2:m/8%8=n/8%8
     · rw [if_pos e2,ga _ (Nat.mod_lt _ (by omega))]
       by_cases e1:m%8=n%8
       · rw [if_pos e1,if_pos (by omega)]
       · rw [if_neg e1,if_neg (by omega),e2,e3]
     · rw [if_neg e2,if_neg (by rintro rfl;exact e2 rfl),e3]
   · rw [if_neg e3,if_neg (by rintro rfl;exact e3 rfl)]
 · rw [yO hm,yO hm,if_neg (by omega)]
theorem GC (n:Nat):(hU n).run HN=.a8:=by
 by_cases h:n<512
 · rw [BV h]
   rcases BU (show n%8<8 by omega) with e|e|e|e|e|e|e|e<;>rcases BU (show n/8%8<8 by omega) with d|d|d|d|d|d|d|d<;>rcases BU (show n/64<8 by omega) with c|c|c|c|c|c|c|c<;>rw [e,d,c]<;>rfl
 · exact yO h _
theorem TH.gY (a b c d:TH) (x k:Nat):(TH.node a b c d).get x k=if x%4=0 then a.get (x/4) k else if x%4=1 then b.get (x/4) k else if x%4=2 then c.get (x/4) k else d.get (x/4) k:=by
 show eI x a.get b.get c.get d.get (x/4) k=_
 rw [bP]
 repeat' split
 all_goals rfl
theorem TH.j8 (j:Nat) (u:Obj) (x k:Nat):(TH.leaf j u).get x k=if j=k then some u else none:=by
 show aL (Nat.beq j k) (some u) none=_
 rw [bM]
 by_cases h:j=k
 · rw [if_pos h,if_pos (by subst h;simp)]
 · rw [if_neg h,if_neg (fun e=>h (Nat.eq_of_beq_eq_true e))]
theorem TH.dH (f b c:Nat) (s t:TH) (k:TH->α):TH.two (f+1) b c s t k=aL (Nat.beq (b%4) (c%4)) (TH.two f (b/4) (c/4) s t fun r=>eI b (k (node r nil nil nil)) (k (node nil r nil nil)) (k (node nil nil r nil)) (k (node nil nil nil r)))
 (eI b (eI c (k s) (k (node s t nil nil)) (k (node s nil t nil)) (k (node s nil nil t))) (eI c (k (node t s nil nil)) (k s) (k (node nil s t nil)) (k (node nil s nil t)))
   (eI c (k (node t nil s nil)) (k (node nil t s nil)) (k s) (k (node nil nil s t))) (eI c (k (node t nil nil s)) (k (node nil t nil s)) (k (node nil nil t s)) (k s))):=rfl
theorem TH.Kt (m n:Nat) (o u:Obj):∀ (f b c:Nat),∃ t:TH,(∀ (α:Type) (k:TH->α),TH.two f b c (.leaf n o) (.leaf m u) k=k t)/\∀ x k w,t.get x k=some w->(k=n/\w=o)\/(k=m/\w=u)
 |0,b,c=>⟨.leaf n o,fun _ _=>rfl,fun x k w h=>by
   rw [TH.j8] at h
   split at h
   · rename_i e;cases h;exact .inl ⟨e.symm,rfl⟩
   · cases h⟩
 |f+1,b,c=>by
  obtain ⟨t,h1,h2⟩:=TH.Kt m n o u f (b/4) (c/4)
  have l1:∀ {x k w},(TH.leaf n o).get x k=some w->(k=n/\w=o)\/(k=m/\w=u):=fun {x k w} h=>by
   rw [TH.j8] at h
   split at h
   · rename_i e;cases h;exact .inl ⟨e.symm,rfl⟩
   · cases h
  have l2:∀ {x k w},(TH.leaf m u).get x k=some w->(k=n/\w=o)\/(k=m/\w=u):=fun {x k w} h=>by
   rw [TH.j8] at h
   split at h
   · rename_i e;cases h;exact .inr ⟨e.symm,rfl⟩
   · cases h
  have l0:∀ {x k w},TH.nil.get x k=some w->(k=n/\w=o)\/(k=m/\w=u):=fun h=>by cases h
  have nd:∀ {p q r s:TH},(∀ x k w,p.get x k=some w->(k=n/\w=o)\/(k=m/\w=u))->(∀ x k w,q.get x k=some w->(k=n/\w=o)\/(k=m/\w=u))->(∀ x k w,r.get x k=some w->(k=n/\w=o)\/(k=m/\w=u))->(∀ x k w,s.get x k=some w->(k=n/\w=o)\/(k=m/\w=u))->
   ∀ x k w,(TH.node p q r s).get x k=some w->(k=n/\w=o)\/(k=m/\w=u):=fun hp hq hr hs x k w h=>by
   rw [TH.gY] at h
   split at h
   · exact hp _ _ _ h
   · split at h
     · exact hq _ _ _ h
     · split at h
       · exact hr _ _ _ h
       · exact hs _ _ _ h
  have b0:=fun x k w=>@l0 x k w
  have b1:=fun x k w=>@l1 x k w
  have b2:=fun x k w=>@l2 x k w
  by_cases e:Nat.beq (b%4) (c%4)=true
  · rcases (show b%4=0\/b%4=1\/b%4=2\/b%4=3 by omega) with q|q|q|q
    · exact ⟨.node t .nil .nil .nil,fun α k=>by rw [TH.dH,e,tM,h1,bP];simp [q],nd h2 b0 b0 b0⟩
    · exact ⟨.node .nil t .nil .nil,fun α k=>by rw [TH.dH,e,tM,h1,bP];simp [q],nd b0 h2 b0 b0⟩
    · exact ⟨.node .nil .nil t .nil,fun α k=>by rw [TH.dH,e,tM,h1,bP];simp [q],nd b0 b0 h2 b0⟩
    · exact ⟨.node .nil .nil .nil t,fun α k=>by rw [TH.dH,e,tM,h1,bP];simp [q],nd b0 b0 b0 h2⟩
  · have e:Nat.beq (b%4) (c%4)=false:=by cases hb:Nat.beq (b%4) (c%4) with|true=>exact absurd hb e|false=>rfl
    rcases (show b%4=0\/b%4=1\/b%4=2\/b%4=3 by omega) with q|q|q|q<;>rcases (show c%4=0\/c%4=1\/c%4=2\/c%4=3 by omega) with p|p|p|p
    all_goals first
     |(exfalso;rw [q,p] at e;exact absurd e (by decide))
     |exact ⟨_,fun α k=>by rw [TH.dH,e,gW];simp only [bP,q,p];rfl,nd b1 b2 b0 b0⟩
     |exact ⟨_,fun α k=>by rw [TH.dH,e,gW];simp only [bP,q,p];rfl,nd b1 b0 b2 b0⟩
     |exact ⟨_,fun α k=>by rw [TH.dH,e,gW];simp only [bP,q,p];rfl,nd b1 b0 b0 b2⟩
     |exact ⟨_,fun α k=>by rw [TH.dH,e,gW];simp only [bP,q,p];rfl,nd b2 b1 b0 b0⟩
     |exact ⟨_,fun α k=>by rw [TH.dH,e,gW];simp only [bP,q,p];rfl,nd b0 b1 b2 b0⟩
     |exact ⟨_,fun α k=>by rw [TH.dH,e,gW];simp only [bP,q,p];rfl,nd b0 b1 b0 b2⟩
     |exact ⟨_,fun α k=>by rw [TH.dH,e,gW];simp only [bP,q,p];rfl,nd b2 b0 b1 b0⟩
     |exact ⟨_,fun α k=>by rw [TH.dH,e,gW];simp only [bP,q,p];rfl,nd b0 b2 b1 b0⟩
     |exact ⟨_,fun α k=>by rw [TH.dH,e,gW];simp only [bP,q,p];rfl,nd b0 b0 b1 b2⟩
     |exact ⟨_,fun α k=>by rw [TH.dH,e,gW];simp only [bP,q,p];rfl,nd b2 b0 b0 b1⟩
     |exact ⟨_,fun α k=>by rw [TH.dH,e,gW];simp only [bP,q,p];rfl,nd b0 b2 b0 b1⟩
     |exact ⟨_,fun α k=>by rw [TH.dH,e,gW];simp only [bP,q,p];rfl,nd b0 b0 b2 b1⟩
theorem TH.put_eq (n:Nat) (o:Obj):∀ (t:TH) (x p:Nat),∃ t':TH,(∀ (α:Type) (k:TH->α),TH.put n o t x p k=k t')/\∀ y k w,(k=n->y=x)->t'.get y k=some w->(k=n/\w=o)\/(k≠n/\t.get y k=some w)
 |.nil,x,p=>⟨.leaf n o,fun _ _=>rfl,fun y k w _ h=>by
   rw [TH.j8] at h
   split at h
   · rename_i e;cases h;exact .inl ⟨e.symm,rfl⟩
   · cases h⟩
 |.leaf j u,x,p=>by
  by_cases e:j=n
  · subst e
    refine ⟨.leaf j o,fun α k=>?_,fun y k w _ h=>?_⟩
    · show aL (Nat.beq j j) _ _=_
      rw [show Nat.beq j j=true by simp,tM]
    · rw [TH.j8] at h
      split at h
      · rename_i e;cases h;exact .inl ⟨e.symm,rfl⟩
      · cases h
  · obtain ⟨t',h1,h2⟩:=TH.Kt j n o u 40 x (j/p)
    refine ⟨t',fun α k=>?_,fun y k w _ h=>?_⟩
    · show aL (Nat.beq j n) _ _=_
      rw [show Nat.beq j n=false by cases hb:Nat.beq j n with|true=>exact absurd (Nat.eq_of_beq_eq_true hb) e|false=>rfl,gW]
      exact h1 α k
    · rcases h2 _ _ _ h with h|⟨rfl,rfl⟩
      · exact .inl h
      · exact .inr ⟨e,by rw [TH.j8,if_pos rfl]⟩
 |.node a b c d,x,p=>by
  rcases (show x%4=0\/x%4=1\/x%4=2\/x%4=3 by omega) with q|q|q|q
  · obtain ⟨t',h1,h2⟩:=TH.put_eq n o a (x/4) (p*4)
    refine ⟨.node t' b c d,fun α k=>?_,fun y k w hy h=>?_⟩
    · show eI x (TH.put n o a (x/4) (p*4) fun r=>k (.node r b c d)) (TH.put n o b (x/4) (p*4) fun r=>k (.node a r c d)) (TH.put n o c (x/4) (p*4) fun r=>k (.node a b r d)) (TH.put n o d (x/4) (p*4) fun r=>k (.node a b c r))=_
      rw [bP];simp only [q];exact h1 _ _
    · rw [TH.gY] at h ⊢
      by_cases hk:k=n
      · rw [hy hk] at h ⊢
        simp only [q] at h
        rcases h2 _ _ _ (fun _=>rfl) h with h|h
        · exact .inl h
        · exact absurd hk h.1
      · right
        refine ⟨hk,?_⟩
        repeat' split at h
        all_goals simp_all
        all_goals rcases h2 _ _ _ (fun e=>absurd e hk) h with h|h
        all_goals first|exact absurd h.1 hk|exact h.2
  · obtain ⟨t',h1,h2⟩:=TH.put_eq n o b (x/4) (p*4)
    refine ⟨.node a t' c d,fun α k=>?_,fun y k w hy h=>?_⟩
    · show eI x (TH.put n o a (x/4) (p*4) fun r=>k (.node r b c d)) (TH.put n o b (x/4) (p*4) fun r=>k (.node a r c d)) (TH.put n o c (x/4) (p*4) fun r=>k (.node a b r d)) (TH.put n o d (x/4) (p*4) fun r=>k (.node a b c r))=_
      rw [bP];simp only [q];exact h1 _ _
    · rw [TH.gY] at h ⊢
      by_cases hk:k=n
      · rw [hy hk] at h ⊢
        simp only [q] at h
        rcases h2 _ _ _ (fun _=>rfl) h with h|h
        · exact .inl h
        · exact absurd hk h.1
      · right
        refine ⟨hk,?_⟩
        repeat' split at h
        all_goals simp_all
        all_goals rcases h2 _ _ _ (fun e=>absurd e hk) h with h|h
        all_goals first|exact absurd h.1 hk|exact h.2
  · obtain ⟨t',h1,h2⟩:=TH.put_eq n o c (x/4) (p*4)
    refine ⟨.node a b t' d,fun α k=>?_,fun y k w hy h=>?_⟩
    · show eI x (TH.put n o a (x/4) (p*4) fun r=>k (.node r b c d)) (TH.put n o b (x/4) (p*4) fun r=>k (.node a r c d)) (TH.put n o c (x/4) (p*4) fun r=>k (.node a b r d)) (TH.put n o d (x/4) (p*4) fun r=>k (.node a b c r))=_
      rw [bP];simp only [q];exact h1 _ _
    · rw [TH.gY] at h ⊢
      by_cases hk:k=n
      · rw [hy hk] at h ⊢
        simp only [q] at h
        rcases h2 _ _ _ (fun _=>rfl) h with h|h
        · exact .inl h
        · exact absurd hk h.1
      · right
        refine ⟨hk,?_⟩
        repeat' split at h
        all_goals simp_all
        all_goals rcases h2 _ _ _ (fun e=>absurd e hk) h with h|h
        all_goals first|exact absurd h.1 hk|exact h.2
  · obtain ⟨t',h1,h2⟩:=TH.put_eq n o d (x/4) (p*4)
    refine ⟨.node a b c t',fun α k=>?_,fun y k w hy h=>?_⟩
    · show eI x (TH.put n o a (x/4) (p*4) fun r=>k (.node r b c d)) (TH.put n o b (x/4) (p*4) fun r=>k (.node a r c d)) (TH.put n o c (x/4) (p*4) fun r=>k (.node a b r d)) (TH.put n o d (x/4) (p*4) fun r=>k (.node a b c r))=_
      rw [bP];simp only [q];exact h1 _ _
    · rw [TH.gY] at h ⊢
      by_cases hk:k=n
      · rw [hy hk] at h ⊢
        simp only [q] at h
        rcases h2 _ _ _ (fun _=>rfl) h with h|h
        · exact .inl h
        · exact absurd hk h.1
      · right
        refine ⟨hk,?_⟩
        repeat' split at h
        all_goals simp_all
        all_goals rcases h2 _ _ _ (fun e=>absurd e hk) h with h|h
        all_goals first|exact absurd h.1 hk|exact h.2
theorem TH.del_eq (n:Nat):∀ (t:TH) (x:Nat),∃ t':TH,(∀ (α:Type) (k:TH->α),TH.del n t x k=k t')/\∀ y k w,(k=n->y=x)->t'.get y k=some w->k≠n/\t.get y k=some w
 |.nil,x=>⟨.nil,fun _ _=>rfl,fun y k w _ h=>by cases h⟩
 |.leaf j u,x=>by
  by_cases e:j=n
  · subst e
    refine ⟨.nil,fun α k=>?_,fun y k w _ h=>by cases h⟩
    show aL (Nat.beq j j) _ _=_
    rw [show Nat.beq j j=true by simp,tM]
  · refine ⟨.leaf j u,fun α k=>?_,fun y k w _ h=>?_⟩
    · show aL (Nat.beq j n) _ _=_
      rw [show Nat.beq j n=false by cases hb:Nat.beq j n with|true=>exact absurd (Nat.eq_of_beq_eq_true hb) e|false=>rfl,gW]
    · refine ⟨?_,h⟩
      rw [TH.j8] at h
      split at h
      · rename_i e2;subst e2;exact e
      · cases h
 |.node a b c d,x=>by
  rcases (show x%4=0\/x%4=1\/x%4=2\/x%4=3 by omega) with q|q|q|q
  · obtain ⟨t',h1,h2⟩:=TH.del_eq n a (x/4)
    refine ⟨.node t' b c d,fun α k=>?_,fun y k w hy h=>?_⟩
    · show eI x (TH.del n a (x/4) fun r=>k (.node r b c d)) (TH.del n b (x/4) fun r=>k (.node a r c d)) (TH.del n c (x/4) fun r=>k (.node a b r d)) (TH.del n d (x/4) fun r=>k (.node a b c r))=_
      rw [bP];simp only [q];exact h1 _ _
    · rw [TH.gY] at h ⊢
      by_cases hk:k=n
      · rw [hy hk] at h ⊢
        simp only [q] at h
        exact absurd hk (h2 _ _ _ (fun _=>rfl) h).1
      · refine ⟨hk,?_⟩
        repeat' split at h
        all_goals simp_all
        all_goals exact (h2 _ _ _ (fun e=>absurd e hk) h).2
  · obtain ⟨t',h1,h2⟩:=TH.del_eq n b (x/4)
    refine ⟨.node a t' c d,fun α k=>?_,fun y k w hy h=>?_⟩
    · show eI x (TH.del n a (x/4) fun r=>k (.node r b c d)) (TH.del n b (x/4) fun r=>k (.node a r c d)) (TH.del n c (x/4) fun r=>k (.node a b r d)) (TH.del n d (x/4) fun r=>k (.node a b c r))=_
      rw [bP];simp only [q];exact h1 _ _
    · rw [TH.gY] at h ⊢
      by_cases hk:k=n
      · rw [hy hk] at h ⊢
        simp only [q] at h
        exact absurd hk (h2 _ _ _ (fun _=>rfl) h).1
      · refine ⟨hk,?_⟩
        repeat' split at h
        all_goals simp_all
        all_goals exact (h2 _ _ _ (fun e=>absurd e hk) h).2
  · obtain ⟨t',h1,h2⟩:=TH.del_eq n c (x/4)
    refine ⟨.node a b t' d,fun α k=>?_,fun y k w hy h=>?_⟩
    · show eI x (TH.del n a (x/4) fun r=>k (.node r b c d)) (TH.del n b (x/4) fun r=>k (.node a r c d)) (TH.del n c (x/4) fun r=>k (.node a b r d)) (TH.del n d (x/4) fun r=>k (.node a b c r))=_
      rw [bP];simp only [q];exact h1 _ _
    · rw [TH.gY] at h ⊢
      by_cases hk:k=n
      · rw [hy hk] at h ⊢
        simp only [q] at h
        exact absurd hk (h2 _ _ _ (fun _=>rfl) h).1
      · refine ⟨hk,?_⟩
        repeat' split at h
        all_goals simp_all
        all_goals exact (h2 _ _ _ (fun e=>absurd e hk) h).2
  · obtain ⟨t',h1,h2⟩:=TH.del_eq n d (x/4)
    refine ⟨.node a b c t',fun α k=>?_,fun y k w hy h=>?_⟩
    · show eI x (TH.del n a (x/4) fun r=>k (.node r b c d)) (TH.del n b (x/4) fun r=>k (.node a r c d)) (TH.del n c (x/4) fun r=>k (.node a b r d)) (TH.del n d (x/4) fun r=>k (.node a b c r))=_
      rw [bP];simp only [q];exact h1 _ _
    · rw [TH.gY] at h ⊢
      by_cases hk:k=n
      · rw [hy hk] at h ⊢
        simp only [q] at h
        exact absurd hk (h2 _ _ _ (fun _=>rfl) h).1
      · refine ⟨hk,?_⟩
        repeat' split at h
        all_goals simp_all
        all_goals exact (h2 _ _ _ (fun e=>absurd e hk) h).2
def BX (t:TH) (h:aA):Prop:=∀ n o,t.get n n=some o->h.get n=some o
def eC:SM->St->Prop
 |.mk gn g ln l,st=>st.g.next=gn/\st.l.next=ln/\BX g st.g/\BX l st.l
def gZ:Mem->aA->Prop
 |.mk n t,h=>h.next=n/\BX t h
theorem look_ok {m:SM} {st:St} (h:eC m st) {k:Key} {o:Obj} (hl:m.look k=some o):st.get k=some o:=by
 obtain ⟨gn,g,ln,l⟩:=m
 cases k with
 |g n=>exact h.2.2.1 n o hl
 |l n=>exact h.2.2.2 n o hl
theorem rM {n:Nat} {o:Obj}:∀ {l:List (Nat×Obj)} {x:Nat},aA.find (aA.rF l n o) x=if x=n then (aA.find l n).map fun _=>o else aA.find l x
 |[],x=>by simp [aA.rF,aA.find]
 |(k,u)::r,x=>by
  simp only [aA.rF]
  split
  · rename_i h
    subst h
    simp only [aA.find]
    by_cases hx:x=k
    · subst hx;simp
    · rw [if_neg (Ne.symm hx),if_neg hx,if_neg (Ne.symm hx)]
  · rename_i h
    simp only [aA.find,rM (l:=r)]
    by_cases hx:x=n
    · subst hx;rw [if_neg h,if_pos rfl,if_pos rfl,if_neg h]
    · by_cases hk:k=x
      · rw [if_pos hk,if_pos hk,if_neg hx]
      · rw [if_neg hk,if_neg hx,if_neg hx,if_neg hk]
theorem m7 {n:Nat}:∀ {l:List (Nat×Obj)} {x:Nat},x≠n->aA.find (aA.del l n) x=aA.find l x
 |[],x,_=>rfl
 |(k,u)::r,x,h=>by
  simp only [aA.del]
  split
  · rename_i e
    subst e
    rw [m7 h]
    simp only [aA.find]
    rw [if_neg (Ne.symm h)]
  · simp only [aA.find,m7 h]
theorem Sx {t:TH} {h:aA} {n:Nat} {o o0:Obj} (hm:BX t h) (hg:h.get n=some o0) {t':TH} (ht:∀ y k w,(k=n->y=n)->t'.get y k=some w->(k=n/\w=o)\/(k≠n/\t.get y k=some w)):BX t' (h.set n o):=by
 intro x w hx
 show aA.find (aA.rF h.CP n o) x=_
 rw [rM]
 rcases ht _ _ _ (fun e=>e) hx with ⟨rfl,rfl⟩|⟨h1,h2⟩
 · rw [if_pos rfl]
   rw [show aA.find h.CP x=some o0 from hg];rfl
 · rw [if_neg h1];exact hm _ _ h2
theorem Rm {t:TH} {h:aA} {o:Obj} (hm:BX t h) {t':TH} (ht:∀ y k w,(k=h.next->y=h.next)->t'.get y k=some w->(k=h.next/\w=o)\/(k≠h.next/\t.get y k=some w)):BX t' (h.push o):=by
 intro x w hx
 show aA.find ((h.next,o)::h.CP) x=_
 simp only [aA.find]
 rcases ht _ _ _ (fun e=>e) hx with ⟨rfl,rfl⟩|⟨h1,h2⟩
 · rw [if_pos rfl]
 · rw [if_neg (Ne.symm h1)];exact hm _ _ h2
theorem Vt {t:TH} {h:aA} {n:Nat} (hm:BX t h) {t':TH} (ht:∀ y k w,(k=n->y=n)->t'.get y k=some w->k≠n/\t.get y k=some w):BX t' (h.remove n):=by
 intro x w hx
 obtain ⟨h1,h2⟩:=ht _ _ _ (fun e=>e) hx
 show aA.find (aA.del h.CP n) x=_
 rw [m7 h1];exact hm _ _ h2
theorem set_ok {m:SM} {st:St} (h:eC m st) {key:Key} {o o0:Obj} (hg:st.get key=some o0) {k:SM->α} {r:α} (he:m.set key o k=r):∃ m',k m'=r/\eC m' (st.set key o):=by
 obtain ⟨gn,g,ln,l⟩:=m
 obtain ⟨h1,h2,h3,h4⟩:=h
 cases key with
 |g n=>
  obtain ⟨t',e1,e2⟩:=TH.put_eq n o g n 1
  replace he:TH.put n o g n 1 (fun g=>k (.mk gn g ln l))=r:=he
  rw [e1] at he
  exact ⟨_,he,h1,h2,Sx h3 hg e2,h4⟩
 |l n=>
  obtain ⟨t',e1,e2⟩:=TH.put_eq n o l n 1
  replace he:TH.put n o l n 1 (fun l=>k (.mk gn g ln l))=r:=he
  rw [e1] at he
  exact ⟨_,he,h1,h2,h3,Sx h4 hg e2⟩
theorem push_ok {m:SM} {st:St} (h:eC m st) {b:Bool} {o:Obj} {k:Key->SM->α} {r:α} (he:m.push b o k=r):∃ m',k (st.aE b) m'=r/\eC m' (st.push b o):=by
 obtain ⟨gn,g,ln,l⟩:=m
 obtain ⟨h1,h2,h3,h4⟩:=h
 subst h1 h2
 cases b with
 |true=>
  obtain ⟨t',e1,e2⟩:=TH.put_eq st.g.next o g st.g.next 1
  replace he:TH.put st.g.next o g st.g.next 1 (fun g=>nX (st.g.next+1) fun n=>k (.g st.g.next) (.mk n g st.l.next l))=r:=he
  rw [e1,gX] at he
  exact ⟨_,he,rfl,rfl,Rm h3 e2,h4⟩
 |false=>
  obtain ⟨t',e1,e2⟩:=TH.put_eq st.l.next o l st.l.next 1
  replace he:TH.put st.l.next o l st.l.next 1 (fun l=>nX (st.l.next+1) fun n=>k (.l st.l.next) (.mk st.g.next g n l))=r:=he
  rw [e1,gX] at he
  exact ⟨_,he,rfl,rfl,h3,Rm h4 e2⟩
theorem drop_ok {m:SM} {st:St} (h:eC m st) {key:Key} {k:SM->α} {r:α} (he:m.drop key k=r):∃ m',k m'=r/\eC m' (st.remove key):=by
 obtain ⟨gn,g,ln,l⟩:=m
 obtain ⟨h1,h2,h3,h4⟩:=h
 cases key with
 |g n=>
  obtain ⟨t',e1,e2⟩:=TH.del_eq n g n
  replace he:TH.del n g n (fun g=>k (.mk gn g ln l))=r:=he
  rw [e1] at he
  exact ⟨_,he,h1,h2,Vt h3 e2,h4⟩
 |l n=>
  obtain ⟨t',e1,e2⟩:=TH.del_eq n l n
  replace he:TH.del n l n (fun l=>k (.mk gn g ln l))=r:=he
  rw [e1] at he
  exact ⟨_,he,h1,h2,h3,Vt h4 e2⟩
end
section
variable {δ:Type}
theorem dS:∀ (l:List δ) (n:Nat),fU l n=l[n]?
 |[],n=>by simp;rfl
 |a::r,0=>rfl
 |a::r,n+1=>by rw [List.getElem?_cons_succ,<-dS r n];rfl
theorem bE:∀ l:List δ,bY l=l.length
 |[]=>rfl
 |a::r=>by show bY r+1=_;rw [bE r];rfl
theorem kR (m:List δ):∀ l:List δ,pV l m=l++m
 |[]=>rfl
 |a::r=>by show a::pV r m=_;rw [kR m r];rfl
theorem iW:∀ (l:List δ) (n:Nat),iU l n=l.drop n
 |[],n=>by simp;rfl
 |a::r,0=>rfl
 |a::r,n+1=>iW r n
theorem j9:∀ (l:List δ) (n:Nat),j6 l n=l.take n
 |[],n=>by simp;rfl
 |a::r,0=>rfl
 |a::r,n+1=>by show a::j6 r n=_;rw [j9 r n];rfl
theorem BY:∀ (l:List δ) (n:Nat) (x:δ),HO l n x=l.set n x
 |[],n,x=>rfl
 |a::r,0,x=>rfl
 |a::r,n+1,x=>by show a::HO r n x=_;rw [BY r n x];rfl
theorem dA {α:Type}:∀ (l:List δ) (k:List δ->α),spell l k=k l
 |[],k=>rfl
 |a::r,k=>by show spell r (fun r=>k (a::r))=_;rw [dA r]
theorem pE (m:List δ):∀ (l:List δ) (k:List δ->Rz),Ah l m k=k (l++m)
 |[],k=>rfl
 |a::r,k=>by show Ah r m (fun r=>k (a::r))=_;rw [pE m r];rfl
theorem wS (x:δ):∀ n:Nat,FF n x=List.replicate n x
 |0=>rfl
 |n+1=>by show x::FF n x=_;rw [wS x n];rfl
theorem DI:∀ (n:Nat) (l:List δ),DE n l=if n<=l.length then some (l.take n) else none
 |0,l=>by simp;rfl
 |n+1,[]=>by simp;rfl
 |n+1,a::r=>by
  show aZ (DE n r) none (fun x=>some (a::x))=_
  rw [DI n r]
  by_cases h:n<=r.length
  · rw [if_pos h,if_pos (by simpa using h)];rfl
  · rw [if_neg h,if_neg (by simpa using h)];rfl
theorem yP:∀ (l:List δ) (n:Nat),mM l n []=l
 |[],_=>rfl
 |a::r,0=>rfl
 |a::r,n+1=>by show a::mM r n []=_;rw [yP r n]
theorem pF (v:δ) (q:List δ):∀ (l:List δ) (n:Nat),mM l n (v::q)=mM (l.set n v) (n+1) q
 |[],_=>rfl
 |a::r,0=>rfl
 |a::r,n+1=>by show a::mM r n (v::q)=a::mM (r.set n v) (n+1) q;rw [pF v q r n]
end
theorem BZ:∀ (vs l:List V) (n:Nat),mM l n vs=b8 l n vs
 |[],l,n=>yP l n
 |v::q,l,n=>by rw [pF,BZ q];rfl
theorem B0 (cs:List V) (off:Nat) (n:Option Nat):Gz cs off n=cG cs off n:=by
 cases n with
 |none=>exact dS cs off
 |some n=>
  show aL (Nat.beq n 0) (cG cs off (some 0)) (aZ (DE n (iU cs off)) none fun x=>some (.agg x))=_
  cases n with
  |zero=>rfl
  |succ n=>
   show aZ (DE (n+1) (iU cs off)) none (fun x=>some (V.agg x))=_
   rw [DI,iW]
   simp only [cG,List.length_drop]
   by_cases h:off+(n+1)<=cs.length
   · rw [if_pos h,if_pos (by omega)];rfl
   · rw [if_neg h,if_neg (by omega)];rfl
open Go
theorem fG (k j:IntKind):lA k j=decide (k=j):=by cases k<;>cases j<;>rfl
theorem eE (b:Bool):gF b=!b:=by cases b<;>rfl
theorem lC (x y:Int):ET x y=decide (x<y):=by
 cases x<;>cases y<;>show _=_
 · rename_i a b;show Nat.ble (a+1) b=_;rw [bZ];exact decide_eq_decide.2 (by simp only [Int.ofNat_eq_natCast];omega)
 · rename_i a b;exact (decide_eq_false (by simp only [Int.ofNat_eq_natCast];omega)).symm
 · rename_i a b;exact (decide_eq_true (by simp only [Int.ofNat_eq_natCast];omega)).symm
 · rename_i a b;show Nat.ble (b+1) a=_;rw [bZ];exact decide_eq_decide.2 (by omega)
theorem nZ (x y:Int):HP x y=decide (x=y):=by
 cases x<;>cases y<;>show _=_
 · rename_i a b;show Nat.beq a b=_;rw [cZ];exact decide_eq_decide.2 (by simp only [Int.ofNat_eq_natCast];omega)
 · exact (decide_eq_false (by simp)).symm
 · exact (decide_eq_false (by simp)).symm
 · rename_i a b;show Nat.beq a b=_;rw [cZ];exact decide_eq_decide.2 (by omega)
theorem GD (x y:Int):Sn x y=x+y:=by cases x<;>cases y<;>rfl
theorem OY (x y:Int):Vq x y=x*y:=by cases x<;>cases y<;>rfl
theorem OZ (x y:Int):Vp x y=x - y:=by
 cases x<;>cases y<;>try rfl
 rename_i a b
 show aL (Nat.ble b a) (Int.ofNat (a - b)) (Int.ofNat a - Int.ofNat b)=_
 rw [bM]
 split
 · rename_i h
   rw [bZ] at h;have:=of_decide_eq_true h
   simp only [Int.ofNat_eq_natCast];omega
 · rfl
theorem DJ (k:IntKind) (n:Int):wr k n=k.wrap n:=by
 cases n with
 |negSucc a=>rfl
 |ofNat a=>
  cases k<;>try rfl
  · show aL (Nat.ble a 9223372036854775807) (Int.ofNat a) _=_
    rw [bM]
    split
    · rename_i h
      rw [bZ] at h;have h:=of_decide_eq_true h
      exact (iD (kd:=.i64) (by simp only [IntKind.min,IntKind.bits,IntKind.signed,Int.ofNat_eq_natCast];first|(simp;done)|(simp;omega)) (by simp only [IntKind.max,IntKind.bits,IntKind.signed,Int.ofNat_eq_natCast];first|(simp;done)|(simp;omega))).symm
    · rfl
  all_goals
   show Int.ofNat (a%_)=_
   simp [IntKind.wrap,IntKind.bits,IntKind.signed]
theorem lW (kd:IntKind) (n:Int) (k:V->Rz):iK kd n k=k (.i kd n):=by
 cases n with
 |ofNat a=>exact gX a fun a=>k (.i kd (.ofNat a))
 |negSucc a=>rfl
theorem Ku {x y:UInt8}:(u8N x=u8N y)↔x=y:=UInt8.toNat_inj
theorem lD:∀ a b:List UInt8,BN a b=(a==b)
 |[],[]=>rfl
 |[],_::_=>rfl
 |_::_,[]=>rfl
 |x::r,y::q=>by
  show aL (Nat.beq (u8N x) (u8N y)) (BN r q) false=_
  rw [bM,lD r q,cZ]
  by_cases h:x=y
  · subst h;simp
  · rw [if_neg (by simpa using fun e=>h (Ku.1 e))];simp [h]
theorem q9:∀ a b:List UInt8,EU a b=Op.bytesLess a b
 |[],[]=>rfl
 |[],_::_=>rfl
 |_::_,[]=>rfl
 |x::r,y::q=>by
  show aL (Nat.beq (u8N x) (u8N y)) (EU r q) (Nat.ble (u8N x+1) (u8N y))=_
  rw [bM,q9 r q,cZ,bZ]
  simp only [Op.bytesLess]
  by_cases h:x=y
  · subst h;simp
  · rw [if_neg (by simpa using fun e=>h (Ku.1 e))]
    simp only [UInt8.lt_iff_toNat_lt,u8N,beq_eq_false_iff_ne.2 h,Bool.false_and,Bool.or_false]
    rfl
theorem B1:∀ x:List UInt8,Kj x=cT x
 |[]=>rfl
 |c::r=>by show [V.i .u8 (.ofNat (u8N c))]::Kj r=_;rw [B1 r];rfl
theorem sM (n b:Nat):yM n b=eW n b:=by unfold yM eW;exact bZ
theorem pH (k:Key):wA k=k.lH:=by cases k<;>rfl
theorem O0 (v:V):Ag v=v.out:=by
 cases v<;>first
  |rfl
  |(rename_i k _;cases k<;>rfl)
  |(rename_i k _ _ _;cases k<;>rfl)
  |(rename_i k;cases k<;>rfl)
  |(rename_i t _ _;cases t with
    |none=>rfl
    |some k=>cases k<;>rfl)
theorem pI:∀ l:List V,iV Ag l=V.outs l
 |[]=>rfl
 |v::r=>by
  show aZ (Ag v) none (fun x=>aZ (iV Ag r) none fun y=>some (x::y))=_
  rw [pI r,O0]
  simp only [V.outs]
  cases v.out<;>cases V.outs r<;>rfl
theorem sN (v:V):nY v=v.pass:=by
 cases v<;>first
  |rfl
  |(rename_i k _;cases k<;>rfl)
  |(rename_i k _ _ _;cases k<;>rfl)
  |(rename_i k;cases k<;>rfl)
  |(rename_i t _ _;cases t with
    |none=>rfl
    |some k=>cases k<;>rfl)
  |(rename_i f a c
    show aZ (iV Ag a) none (fun x=>aZ (iV Ag c) none fun y=>some (V.fn f x y))=_
    rw [pI,pI];simp only [V.pass];cases V.outs a<;>cases V.outs c<;>rfl)
  |(rename_i c
    show aZ (iV Ag c) none (fun x=>some (V.agg x))=_
    rw [pI];simp only [V.pass];cases V.outs c<;>rfl)
theorem kA:∀ l:List V,gV l=dI l
 |[]=>rfl
 |v::r=>by
  show aZ (nY v) none (fun x=>aZ (gV r) none fun y=>some (x::y))=_
  rw [kA r,sN]
  simp only [dI]
  cases v.pass<;>cases dI r<;>rfl
theorem Kv (v:V):A9 v=v.deep:=by cases v<;>rfl
theorem Bb:∀ l:List V,iV A9 l=hY l
 |[]=>rfl
 |v::r=>by
  show aZ (A9 v) none (fun x=>aZ (iV A9 r) none fun y=>some (x::y))=_
  rw [Bb r,Kv]
  simp only [hY]
  cases v.deep<;>cases hY r<;>rfl
theorem mN:∀ l:List (List V),sI l=dD l
 |[]=>rfl
 |v::r=>by
  show aZ (iV A9 v) none (fun x=>aZ (sI r) none fun y=>some (x::y))=_
  rw [mN r,Bb]
  simp only [dD]
  cases hY v<;>cases dD r<;>rfl
theorem GF (g:Bool) (l:List V):FG g l=lJ g l:=by cases g<;>first|rfl|exact kA l
theorem Kw:∀ l:List (List V),dF false l=some l
 |[]=>rfl
 |e::r=>by simp only [dF,lJ,Kw r]
theorem Kx:∀ l:List (List V),iV gV l=dF true l
 |[]=>rfl
 |v::r=>by
  show aZ (gV v) none (fun x=>aZ (iV gV r) none fun y=>some (x::y))=_
  rw [Kx r,kA]
  simp only [dF,lJ]
  cases dI v<;>cases dF true r<;>rfl
theorem tN (g:Bool) (l:List (List V)):yK g l=dF g l:=by
 cases g
 · exact (Kw l).symm
 · exact Kx l
theorem DK {α:Type} (k:V->α) (v:V):vK k v=k v:=by cases v<;>rfl
theorem tO (x y:V):q0 x y=lK x y:=by
 cases x<;>cases y<;>try rfl
 · rename_i k a j b
   show aL (lA k j) (HP a b) false=_
   rw [bM,fG,nZ]
   simp only [lK]
   by_cases h:k=j<;>simp [h]
 · rename_i a b;exact lD a b
theorem tP (kd:Option IntKind) (v:V):q7 kd v=v.cB kd:=by
 cases kd with
 |none=>cases v<;>rfl
 |some k=>cases v<;>first|rfl|(rename_i j _;show lA k j=_;rw [fG];rfl)
theorem O1 (a b:Option IntKind):Kk a b=decide (a=b):=by
 cases a<;>cases b<;>first|rfl|(rename_i x y;show lA x y=_;rw [fG];exact decide_eq_decide.2 (by simp))
theorem Bc (x:V):∀ l:List (V×V),BP x l=rI l x
 |[]=>rfl
 |(k,v)::r=>by
  show aL (q0 x k) (some v) (BP x r)=_
  rw [bM,Bc x r,tO];rfl
theorem DL (x v:V):∀ l:List (V×V),GA x v l=dU l x v
 |[]=>rfl
 |(k,u)::r=>by
  show aL (q0 x k) ((x,v)::r) ((k,u)::GA x v r)=_
  rw [bM,DL x v r,tO];rfl
theorem DM (x:V):∀ l:List (V×V),GB x l=CT l x
 |[]=>rfl
 |(k,u)::r=>by
  show aL (q0 x k) r ((k,u)::GB x r)=_
  rw [bM,DM x r,tO];rfl
theorem FL (k:CK) (x y:V):BQ k x y=jT k x y:=by
 cases k<;>cases x<;>first
  |rfl
  |(cases y<;>first
    |rfl
    |(rename_i a b;cases a<;>cases b<;>rfl)
    |(rename_i a b c d
      show aL (lA a c) (some (HP b d)) none=_
      rw [bM,fG,nZ];simp only [jT];by_cases h:a=c<;>simp [h])
    |(rename_i a b;show some (BN a b)=_;rw [lD];rfl))
theorem uV:∀ (ks:List CK) (x y:List V),sK ks x y=bV ks x y
 |[],[],[]=>rfl
 |[],[],_::_=>rfl
 |[],_::_,_=>rfl
 |_::_,[],_=>rfl
 |_::_,_::_,[]=>rfl
 |k::ks,a::r,b::q=>by
  show aZ (BQ k a b) none (fun e=>aZ (sK ks r q) none fun f=>some (aL e f false))=_
  rw [uV ks r q,FL]
  simp only [bV]
  cases jT k a b with
  |none=>rfl
  |some e=>cases bV ks r q<;>cases e<;>rfl
theorem Ky (max:Bool):∀ (l:List V) (v:V),W3 max l v=eM max v l
 |[],v=>by cases v<;>rfl
 |w::r,v=>by
  cases v<;>first
   |rfl
   |(cases w<;>first
     |rfl
     |(rename_i k x j y
       show W3 max r (.i k (aL max (aL (ET x y) y x) (aL (ET y x) y x)))=_
       rw [Ky max r]
       cases max
       · show eM false (.i k (aL (ET y x) y x)) r=_
         rw [bM,lC];simp only [eM,decide_eq_true_eq]
       · show eM true (.i k (aL (ET x y) y x)) r=_
         rw [bM,lC];simp only [eM,decide_eq_true_eq]))
theorem tQ:∀ l:List (List V),tK l=bytesOf l
 |[]=>rfl
 |[]::r=>rfl
 |(v::u::q)::r=>by cases v<;>first|rfl|(rename_i k n;cases k<;>rfl)
 |[v]::r=>by
  cases v<;>first
   |rfl
   |(rename_i k n
     show aL (lA k .u8) (aZ (tK r) none fun y=>some (UInt8.ofNat n.toNat::y)) none=_
     rw [tQ r,bM,fG]
     cases k<;>simp [bytesOf]<;>cases bytesOf r<;>rfl)
theorem DN (cs:List V) (off:Nat) (vs:List V):Ba cs off vs.length=kY cs off vs:=by
 unfold Ba kY
 rw [bM,cZ]
 by_cases h:vs.length=0
 · rw [if_pos (by simpa using h),bE,bZ,h];rfl
 · rw [if_neg (by simpa using h),dS]
   show (aZ cs[off+vs.length - 1]? false fun _=>true)=_
   by_cases h2:off+vs.length<=cs.length
   · rw [decide_eq_true h2,List.getElem?_eq_getElem (show off+vs.length - 1<cs.length by omega)];rfl
   · rw [decide_eq_false h2,List.getElem?_eq_none (show cs.length<=off+vs.length - 1 by omega)];rfl
section
variable {r:Rz}
theorem aI {c:Bool} {k:Rz} (h:aU c k=r) (hr:r≠.none):c=true/\k=r:=by
 cases c
 · exact absurd h.symm hr
 · exact ⟨rfl,h⟩
theorem bA {δ:Type} {o:Option δ} {k:δ->Rz} (h:asks o k=r) (hr:r≠.none):∃ x,o=some x/\k x=r:=by
 cases o
 · exact absurd h.symm hr
 · exact ⟨_,rfl,h⟩
theorem kB {x:Int} {k:Nat->Rz} (h:sJ x k=r) (hr:r≠.none):∃ n:Nat,x=(n:Int)/\k n=r:=by
 cases x
 · exact ⟨_,rfl,h⟩
 · exact absurd h.symm hr
theorem FM {v:V} {k0:Bool->Rz} (h:vB .none k0 v=r) (hr:r≠.none):(∃ a,v=.b a/\k0 a=r):=by
 cases v<;>first|exact absurd h.symm hr|exact ⟨_,rfl,h⟩
theorem lF {v:V} {k0:IntKind->Int->Rz} (h:eG .none k0 v=r) (hr:r≠.none):(∃ a b,v=.i a b/\k0 a b=r):=by
 cases v<;>first|exact absurd h.symm hr|exact ⟨_,_,rfl,h⟩
theorem tS {v:V} {k0:List UInt8->Rz} (h:jD .none k0 v=r) (hr:r≠.none):(∃ a,v=.s a/\k0 a=r):=by
 cases v<;>first|exact absurd h.symm hr|exact ⟨_,rfl,h⟩
theorem O2 {v:V} {k0:IntKind->Int->Rz} {k1:List UInt8->Rz} (h:Vo .none k0 k1 v=r) (hr:r≠.none):(∃ a b,v=.i a b/\k0 a b=r)\/(∃ a,v=.s a/\k1 a=r):=by
 cases v<;>first|exact absurd h.symm hr|exact .inl ⟨_,_,rfl,h⟩|exact .inr (⟨_,rfl,h⟩)
theorem B2 {v:V} {k0:Key->Nat->Rz} {k1:Key->Nat->Nat->Nat->Rz} {k2:List V->Nat->Rz} (h:vP .none k0 k1 k2 v=r) (hr:r≠.none):(∃ a b,v=.p a b/\k0 a b=r)\/(∃ a b c d,v=.pa a b c d/\k1 a b c d=r)\/(∃ a b,v=.pc a b/\k2 a b=r):=by
 cases v<;>first|exact absurd h.symm hr|exact .inl ⟨_,_,rfl,h⟩|exact .inr (.inl ⟨_,_,_,_,rfl,h⟩)|exact .inr (.inr (⟨_,_,rfl,h⟩))
theorem Sy {v:V} {k0:Key->Nat->Rz} {k1:Key->Nat->Nat->Nat->Rz} {k2:List V->Nat->Rz} {k3:Nat->List V->List V->Rz} (h:vQ .none k0 k1 k2 k3 v=r) (hr:r≠.none):(∃ a b,v=.p a b/\k0 a b=r)\/(∃ a b c d,v=.pa a b c d/\k1 a b c d=r)\/(∃ a b,v=.pc a b/\k2 a b=r)\/(∃ a b c,v=.fn a b c/\k3 a b c=r):=by
 cases v<;>first|exact absurd h.symm hr|exact .inl ⟨_,_,rfl,h⟩|exact .inr (.inl ⟨_,_,_,_,rfl,h⟩)|exact .inr (.inr (.inl ⟨_,_,rfl,h⟩))|exact .inr (.inr (.inr (⟨_,_,_,rfl,h⟩)))
theorem kC {v:V} {k0:List UInt8->Rz} {k1:Rz} {k2:Option Key->Nat->List (List V)->Rz} {k3:Key->Nat->Nat->Nat->Rz} (h:vL .none k0 k1 k2 k3 v=r) (hr:r≠.none):(∃ a,v=.s a/\k0 a=r)\/(v=.bU/\k1=r)\/(∃ a b c,v=.sl a b c/\k2 a b c=r)\/(∃ a b c d,v=.ms a b c d/\k3 a b c d=r):=by
 cases v<;>first|exact absurd h.symm hr|exact .inl ⟨_,rfl,h⟩|exact .inr (.inl ⟨rfl,h⟩)|exact .inr (.inr (.inl ⟨_,_,_,rfl,h⟩))|exact .inr (.inr (.inr (⟨_,_,_,_,rfl,h⟩)))
theorem yQ {v:V} {k0:Rz} {k1:Key->Rz} (h:vM .none k0 k1 v=r) (hr:r≠.none):(v=.cY/\k0=r)\/(∃ a,v=.m a/\k1 a=r):=by
 cases v<;>first|exact absurd h.symm hr|exact .inl ⟨rfl,h⟩|exact .inr (⟨_,rfl,h⟩)
theorem KA {v:V} {k0:List V->Rz} (h:vA .none k0 v=r) (hr:r≠.none):(∃ a,v=.agg a/\k0 a=r):=by
 cases v<;>first|exact absurd h.symm hr|exact ⟨_,rfl,h⟩
theorem Sz {v:V} {k0:List V->Rz} (h:vT .none k0 v=r) (hr:r≠.none):(∃ a,v=.bO a/\k0 a=r):=by
 cases v<;>first|exact absurd h.symm hr|exact ⟨_,rfl,h⟩
theorem SA {v:V} {k0:Nat->List V->List V->Rz} (h:vF .none k0 v=r) (hr:r≠.none):(∃ a b c,v=.fn a b c/\k0 a b c=r):=by
 cases v<;>first|exact absurd h.symm hr|exact ⟨_,_,_,rfl,h⟩
theorem O3 {v:V} {k0:Rz} {k1:Key->Nat->Rz} {k2:Key->Nat->Nat->Nat->Rz} (h:X7 .none k0 k1 k2 v=r) (hr:r≠.none):(v=.dZ/\k0=r)\/(∃ a b,v=.p a b/\k1 a b=r)\/(∃ a b c d,v=.pa a b c d/\k2 a b c d=r):=by
 cases v<;>first|exact absurd h.symm hr|exact .inl ⟨rfl,h⟩|exact .inr (.inl ⟨_,_,rfl,h⟩)|exact .inr (.inr (⟨_,_,_,_,rfl,h⟩))
theorem O4 {v:V} {k0:Rz} {k1:Nat->List V->List V->Rz} (h:X8 .none k0 k1 v=r) (hr:r≠.none):(v=.eA/\k0=r)\/(∃ a b c,v=.fn a b c/\k1 a b c=r):=by
 cases v<;>first|exact absurd h.symm hr|exact .inl ⟨rfl,h⟩|exact .inr (⟨_,_,_,rfl,h⟩)
theorem O5 {v:V} {k0:Rz} {k1:Rz} {k2:Rz} {k3:Rz} (h:Z2 .none k0 k1 k2 k3 v=r) (hr:r≠.none):(v=.dZ/\k0=r)\/(v=.bU/\k1=r)\/(v=.cY/\k2=r)\/(v=.eA/\k3=r):=by
 cases v<;>first|exact absurd h.symm hr|exact .inl ⟨rfl,h⟩|exact .inr (.inl ⟨rfl,h⟩)|exact .inr (.inr (.inl ⟨rfl,h⟩))|exact .inr (.inr (.inr (⟨rfl,h⟩)))
theorem FN {v:V} {k0:Bool->Rz} {k1:List V->Rz} (h:vG .none k0 k1 v=r) (hr:r≠.none):(∃ a,v=.b a/\k0 a=r)\/(∃ a,v=.bO a/\k1 a=r):=by
 cases v<;>first|exact absurd h.symm hr|exact .inl ⟨_,rfl,h⟩|exact .inr (⟨_,rfl,h⟩)
theorem B3 {v:V} {k:List V->Rz} (h:vC .none k v=r) (hr:r≠.none):v.RI=true/\k v.cells=r:=by
 cases v<;>first|exact ⟨rfl,h⟩|exact absurd h.symm hr
theorem GG {row:Bool} {v:V} {k:List V->Rz} (h:Kl row v k=r) (hr:r≠.none):∃ cs,v.row row=some cs/\k cs=r:=by
 cases row<;>cases v<;>first|exact ⟨_,rfl,h⟩|exact absurd h.symm hr
section
variable {m:SM} {st:St}
theorem GH (hs:eC m st) {key:Key} {k:List V->Rz} (h:Vr m key k=r) (hr:r≠.none):∃ c,st.get key=some (.cs c)/\k c=r:=by
 obtain ⟨o,h1,h2⟩:=bA h hr
 have:=look_ok hs h1
 cases o<;>first|exact ⟨_,this,h2⟩|exact absurd h2.symm hr
theorem iX (hs:eC m st) {key:Key} {sz:Nat} {k:List (List V)->Rz} (h:qY m key sz k=r) (hr:r≠.none):∃ es,st.get key=some (.arr sz es)/\k es=r:=by
 obtain ⟨o,h1,h2⟩:=bA h hr
 have:=look_ok hs h1
 cases o with
 |arr z es=>
  obtain ⟨h3,h4⟩:=aI h2 hr
  rw [cZ,decide_eq_true_eq] at h3
  subst h3
  exact ⟨_,this,h4⟩
 |_=>exact absurd h2.symm hr
theorem DO (hs:eC m st) {key:Key} {k:Rz} (h:OV m key k=r) (hr:r≠.none):st.get key=some .spare/\k=r:=by
 obtain ⟨o,h1,h2⟩:=bA h hr
 have:=look_ok hs h1
 cases o<;>first|exact ⟨this,h2⟩|exact absurd h2.symm hr
theorem B4 (hs:eC m st) {key:Key} {kd:Option IntKind} {k:List (V×V)->Rz} (h:Sp m key kd k=r) (hr:r≠.none):∃ es,st.get key=some (.mp kd es)/\k es=r:=by
 obtain ⟨o,h1,h2⟩:=bA h hr
 have:=look_ok hs h1
 cases o with
 |mp z es=>
  obtain ⟨h3,h4⟩:=aI h2 hr
  rw [O1,decide_eq_true_eq] at h3
  subst h3
  exact ⟨_,this,h4⟩
 |_=>exact absurd h2.symm hr
end
end
open Go
def n0 (f:Fc) (fr:Fr):Prop:=∀ n,(hU n).run f=fr.get n
def Ai (rf:Rf) (A:aX):Prop:=∀ g vs m v m',rf g vs m=.some v m'->∀ h,gZ m h->∀ K:V->aA->Prop,(∀ h',gZ m' h'->K v h')->A g vs h K
section
variable {f:Fc} {fr:Fr} (hf:n0 f fr)
include hf
theorem rA (x:aV):(cC x).run f=x.ev fr:=by
 cases x with
 |t n=>exact hf n
 |c v=>rfl
theorem GI:∀ l:List aV,(DF l).run f=aV.wH fr l
 |[]=>rfl
 |x::r=>by show (cC x).run f::(DF r).run f=_;rw [rA hf,GI r];rfl
theorem O6 (x:Option aV):(j7 x).run f=aV.mZ fr x:=by
 cases x with
 |none=>rfl
 |some x=>show some ((cC x).run f)=_;rw [rA hf];rfl
theorem GJ:∀ (l:List aV) (k:List V->Rz),(OW l).run f k=k (aV.wH fr l)
 |[],k=>rfl
 |x::r,k=>by
  show vK (fun v=>(OW r).run f fun r=>k (v::r)) ((cC x).run f)=_
  rw [DK,rA hf,GJ r];rfl
variable {r:Rz}
theorem yR (hr:r≠.none):∀ (ps:List (Nat×Nat×aV)) (cs:List V) (k:List V->Rz),FH ps f cs k=r->∃ vR,fI cs (cE fr ps)=some vR/\k vR=r
 |[],cs,k,h=>⟨cs,rfl,h⟩
 |(a,b,x)::q,cs,k,h=>by
  replace h:vC .none (fun vs=>aU (Nat.beq (bY vs) b) (aU (Nat.ble (Nat.add a b) (bY cs)) (spell (mM cs a vs) fun cs=>FH q f cs k))) ((cC x).run f)=r:=h
  rw [rA hf] at h
  obtain ⟨h1,h⟩:=B3 h hr
  obtain ⟨h2,h⟩:=aI h hr
  obtain ⟨h3,h⟩:=aI h hr
  rw [bE,cZ,decide_eq_true_eq] at h2
  rw [bE,bZ,decide_eq_true_eq] at h3
  rw [dA,BZ] at h
  obtain ⟨vR,h4,h5⟩:=yR hr q _ k h
  exact ⟨vR,by simp only [cE,fI];rw [if_pos ⟨h1,h2,h3⟩];exact h4,h5⟩
theorem yS (hr:r≠.none) (sz:Nat):∀ (ps:List (Nat×aV)) (es:List (List V)) (k:List (List V)->Rz),FI ps sz f es k=r->∃ l4,iB es sz (dT fr ps)=some l4/\k l4=r
 |[],cs,k,h=>⟨cs,rfl,h⟩
 |(a,x)::q,es,k,h=>by
  replace h:vC .none (fun vs=>aU (Nat.beq (bY vs) sz) (aU (Nat.ble (Nat.succ a) (bY es)) (spell (HO es a vs) fun es=>FI q sz f es k))) ((cC x).run f)=r:=h
  rw [rA hf] at h
  obtain ⟨h1,h⟩:=B3 h hr
  obtain ⟨h2,h⟩:=aI h hr
  obtain ⟨h3,h⟩:=aI h hr
  rw [bE,cZ,decide_eq_true_eq] at h2
  rw [bE,bZ,decide_eq_true_eq] at h3
  rw [dA,BY] at h
  obtain ⟨vR,h4,h5⟩:=yS hr sz q _ k h
  exact ⟨vR,by simp only [dT,iB];rw [if_pos ⟨h1,h2,h3⟩];exact h4,h5⟩
end
section
variable {r:Rz} (hr:r≠.none)
include hr
theorem fW {o:Option V} {n:Nat} {k:Nat->Rz} (h:wB o n k=r):∃ j:Nat,cL o n=some (j:Int)/\k j=r:=by
 cases o with
 |none=>exact ⟨n,rfl,h⟩
 |some v=>
  rcases lF (v:=v) h hr with ⟨a,b,rfl,h⟩
  obtain ⟨j,rfl,h⟩:=kB h hr
  exact ⟨j,rfl,h⟩
variable {A:aX} {m:SM} {st:St} {P:R->Prop} (hs:eC m st)
include hs
theorem newSl_ok {md:gI} {sz:Nat} {es:List (List V)} {k:Kz} (h:yL md sz es m k=r) (hP:∀ v m' aR,eC m' aR->k v m'=r->P (v,aR)):(jU md sz es st).wp A P:=by
 cases md with
 |im g=>
  obtain ⟨ds,h1,h2⟩:=bA h hr
  rw [mN] at h1
  obtain ⟨m',h3,h4⟩:=push_ok hs h2
  exact ⟨ds,h1,hP _ _ _ h4 h3⟩
 |mu g=>
  obtain ⟨ds,h1,h2⟩:=bA h hr
  rw [tN] at h1
  obtain ⟨m',h3,h4⟩:=push_ok hs h2
  rw [bE] at h3
  exact ⟨ds,h1,hP _ _ _ h4 h3⟩
 |fz=>
  obtain ⟨ds,h1,h2⟩:=bA h hr
  rw [mN] at h1
  exact ⟨ds,h1,hP _ _ _ hs h2⟩
theorem elems2_ok {sz:Nat} {v:V} {k:List (List V)->Rz} {kk:List (List V)->T R} (h:qZ sz m v k=r) (hk:∀ es,k es=r->(kk es).wp A P):(eD sz st v kk).wp A P:=by
 replace h:=kC h hr;rcases h with ⟨x,rfl,h⟩|⟨rfl,h⟩|⟨t,z,es,rfl,h⟩|⟨key,z,s,n,rfl,h⟩
 · obtain ⟨h1,h⟩:=aI h hr
   rw [cZ,decide_eq_true_eq] at h1
   rw [B1] at h
   simp only [eD,if_pos h1]
   exact hk _ h
 · exact hk _ h
 · obtain ⟨h1,h⟩:=aI h hr
   rw [cZ,decide_eq_true_eq] at h1
   simp only [eD,if_pos h1]
   exact hk _ h
 · obtain ⟨h1,h⟩:=aI h hr
   rw [cZ,decide_eq_true_eq] at h1
   obtain ⟨es,h2,h⟩:=iX hs h hr
   obtain ⟨h3,h⟩:=aI h hr
   rw [bZ,bE] at h3
   rw [j9,iW] at h
   simp only [eD,if_pos h1]
   refine ⟨_,h2,?_⟩
   dsimp only
   rw [if_pos rfl]
   exact ⟨h3,hk _ h⟩
theorem append2_ok {md:gI} {sz bytes:Nat} {s:V} {new:List (List V)} {k:Kz} (h:BO md sz bytes m s new k=r) (hP:∀ v m' aR,eC m' aR->k v m'=r->P (v,aR)):(fN md sz bytes st s new).wp A P:=by
 cases new with
 |nil=>
  replace h:=kC h hr;rcases h with ⟨x,rfl,h⟩|⟨rfl,h⟩|⟨t,z,es,rfl,h⟩|⟨key,z,off,len,rfl,h⟩
  · exact absurd h.symm hr
  · exact hP _ _ _ hs h
  · obtain ⟨h1,h⟩:=aI h hr
    rw [cZ,decide_eq_true_eq] at h1
    simp only [fN,if_pos h1]
    exact hP _ _ _ hs h
  · obtain ⟨h1,h⟩:=aI h hr
    rw [cZ,decide_eq_true_eq] at h1
    simp only [fN,if_pos h1]
    exact hP _ _ _ hs h
 |cons e q=>
  replace h:=kC h hr;rcases h with ⟨x,rfl,h⟩|⟨rfl,h⟩|⟨t,z,es,rfl,h⟩|⟨key,z,off,len,rfl,h⟩
  · exact absurd h.symm hr
  · obtain ⟨h1,h⟩:=aI h hr
    rw [sM,bE] at h1
    exact ⟨h1,newSl_ok hr hs h hP⟩
  · obtain ⟨h1,h⟩:=aI h hr
    rw [cZ,decide_eq_true_eq] at h1
    obtain ⟨h2,h⟩:=aI h hr
    rw [sM,bE,bE] at h2
    obtain ⟨ds,h3,h⟩:=bA h hr
    rw [mN] at h3
    obtain ⟨key,rfl,h⟩:=bA h hr
    obtain ⟨h4,h⟩:=DO hs h hr
    obtain ⟨m1,h,HF⟩:=drop_ok hs h
    obtain ⟨m2,h,IP⟩:=push_ok HF h
    rw [pE] at h
    simp only [pH] at h IP
    simp only [fN,if_pos h1]
    exact ⟨h2,ds,h3,_,h4,hP _ _ _ IP h⟩
  · obtain ⟨h1,h⟩:=aI h hr
    rw [cZ,decide_eq_true_eq] at h1
    obtain ⟨h2,h⟩:=aI h hr
    rw [sM,bE] at h2
    obtain ⟨ds,h3,h⟩:=bA h hr
    rw [tN,pH] at h3
    obtain ⟨es,h4,h⟩:=iX hs h hr
    obtain ⟨h5,h⟩:=aI h hr
    rw [bZ,bE] at h5
    simp only [bE,pE,j9,iW,kR,bM,bZ] at h
    simp only [fN,if_pos h1]
    refine ⟨h2,ds,h3,_,h4,?_⟩
    dsimp only
    rw [if_pos rfl]
    refine ⟨h5,?_⟩
    split at h
    · rename_i hc
      refine uH hc ?_
      obtain ⟨m1,h,HF⟩:=set_ok hs h4 h
      exact hP _ _ _ HF h
    · rename_i hc
      refine rO (by simpa using hc) ?_
      obtain ⟨m1,h,HF⟩:=drop_ok hs h
      obtain ⟨m2,h,IP⟩:=push_ok HF h
      simp only [pH] at h IP
      exact hP _ _ _ IP h
omit hs in
theorem iBin_ok {op:BinOp} {kd s0:IntKind} {a c:Int} {k:V->Rz} (h:(Sq op).run kd s0 a c k=r) (hP:∀ v,k v=r->P (v,st)):(cK op (.i kd a) (.i s0 c) st).wp A P:=by
 have hk:∀ {X:Rz},aU (lA kd s0) X=r->kd=s0/\X=r:=fun h=>by
  obtain ⟨h1,h2⟩:=aI h hr
  rw [fG,decide_eq_true_eq] at h1
  exact ⟨h1,h2⟩
 cases op with
 |shl=>
  obtain ⟨h1,h⟩:=aI h hr
  rw [eE,lC] at h1
  rw [lW] at h
  exact ⟨by simpa using h1,l5 (hP _ h)⟩
 |shr=>
  obtain ⟨h1,h⟩:=aI h hr
  rw [eE,lC] at h1
  rw [lW] at h
  exact ⟨by simpa using h1,hP _ h⟩
 |quo=>
  obtain ⟨e,h2⟩:=hk h
  subst e
  obtain ⟨h1,h2⟩:=aI h2 hr
  rw [eE,nZ] at h1
  rw [lW] at h2
  simp only [cK,if_true]
  exact ⟨h1,l5 (hP _ h2)⟩
 |rem=>
  obtain ⟨e,h2⟩:=hk h
  subst e
  obtain ⟨h1,h2⟩:=aI h2 hr
  rw [eE,nZ] at h1
  rw [lW] at h2
  simp only [cK,if_true]
  exact ⟨h1,hP _ h2⟩
 |add=>obtain ⟨e,h2⟩:=hk h;subst e;rw [lW,DJ,GD] at h2;simp only [cK,if_true];exact l5 (hP _ h2)
 |sub=>obtain ⟨e,h2⟩:=hk h;subst e;rw [lW,DJ,OZ] at h2;simp only [cK,if_true];exact l5 (hP _ h2)
 |mul=>obtain ⟨e,h2⟩:=hk h;subst e;rw [lW,DJ,OY] at h2;simp only [cK,if_true];exact l5 (hP _ h2)
 |and=>obtain ⟨e,h2⟩:=hk h;subst e;rw [lW] at h2;simp only [cK,if_true];exact hP _ h2
 |or=>obtain ⟨e,h2⟩:=hk h;subst e;rw [lW] at h2;simp only [cK,if_true];exact hP _ h2
 |xor=>obtain ⟨e,h2⟩:=hk h;subst e;rw [lW] at h2;simp only [cK,if_true];exact hP _ h2
 |andNot=>obtain ⟨e,h2⟩:=hk h;subst e;rw [lW] at h2;simp only [cK,if_true];exact hP _ h2
 |eql=>obtain ⟨e,h2⟩:=hk h;subst e;rw [nZ] at h2;simp only [cK,if_true];exact hP _ h2
 |neq=>obtain ⟨e,h2⟩:=hk h;subst e;rw [nZ,eE] at h2;simp only [cK,if_true];exact hP _ h2
 |lss=>obtain ⟨e,h2⟩:=hk h;subst e;rw [lC] at h2;simp only [cK,if_true];exact hP _ h2
 |leq=>obtain ⟨e,h2⟩:=hk h;subst e;rw [lC,eE] at h2;simp only [cK,if_true];exact hP _ (by rw [<-h2];congr 2;by_cases hh:c<a<;>simp [hh]<;>omega)
 |gtr=>obtain ⟨e,h2⟩:=hk h;subst e;rw [lC] at h2;simp only [cK,if_true];exact hP _ h2
 |geq=>obtain ⟨e,h2⟩:=hk h;subst e;rw [lC,eE] at h2;simp only [cK,if_true];exact hP _ (by rw [<-h2];congr 2;by_cases hh:a<c<;>simp [hh]<;>omega)
omit hs in
theorem sBin_ok {op:BinOp} {a c:List UInt8} {k:V->Rz} (h:(Sr op).run a c k=r) (hP:∀ v,k v=r->P (v,st)):(cK op (.s a) (.s c) st).wp A P:=by
 cases op
 case add=>
  obtain ⟨h1,h⟩:=aI h hr
  rw [bZ,bE,bE,decide_eq_true_eq] at h1
  rw [pE] at h
  exact ⟨decide_eq_true (by show ((a.length+c.length:Nat):Int)<=9223372036854775807;have:a.length+c.length<=9223372036854775807:=h1;omega),hP _ h⟩
 case eql=>exact hP _ (by rw [<-h];show _=k (.b (BN a c));rw [lD])
 case neq=>exact hP _ (by rw [<-h];show _=k (.b (gF (BN a c)));rw [lD,eE])
 case lss=>exact hP _ (by rw [<-h];show _=k (.b (EU a c));rw [q9])
 case leq=>exact hP _ (by rw [<-h];show _=k (.b (aL (EU a c) true (BN a c)));rw [q9,lD];cases Op.bytesLess a c<;>rfl)
 case gtr=>exact hP _ (by rw [<-h];show _=k (.b (gF (aL (EU a c) true (BN a c))));rw [q9,lD,eE];cases Op.bytesLess a c<;>rfl)
 case geq=>exact hP _ (by rw [<-h];show _=k (.b (gF (EU a c)));rw [q9,eE])
 all_goals exact absurd h.symm hr
omit hs in
theorem nil2_ok {neg:Bool} {x y:V} {k:V->Rz} (h:OX neg x y k=r) (hP:∀ v,k v=r->P (v,st)):(oZ neg x y st).wp A P:=by
 unfold OX at h
 replace h:=O5 h hr;rcases h with ⟨rfl,h⟩|⟨rfl,h⟩|⟨rfl,h⟩|⟨rfl,h⟩
 · replace h:=O3 h hr;rcases h with ⟨rfl,h⟩|⟨a,b,rfl,h⟩|⟨a,b,c,d,rfl,h⟩
   · exact hP _ (by rw [<-h,eE])
   · exact hP _ h
   · exact hP _ h
 · replace h:=kC h hr;rcases h with ⟨x,rfl,h⟩|⟨rfl,h⟩|⟨t,z,es,rfl,h⟩|⟨key,z,s,n,rfl,h⟩
   · exact absurd h.symm hr
   · exact hP _ (by rw [<-h,eE])
   · cases t with
     |some a=>exact hP _ h
     |none=>
      cases es with
      |nil=>exact absurd h.symm hr
      |cons e q=>exact rO rfl (hP _ h)
   · exact hP _ h
 · replace h:=yQ h hr;rcases h with ⟨rfl,h⟩|⟨a,rfl,h⟩
   · exact hP _ (by rw [<-h,eE])
   · exact hP _ h
 · replace h:=O4 h hr;rcases h with ⟨rfl,h⟩|⟨a,b,c,rfl,h⟩
   · exact hP _ (by rw [<-h,eE])
   · exact hP _ h
theorem callK_ok {rf:Rf} (hA:Ai rf A) {g:Nat} {vs:List V} {k:Kz} (h:DG rf g vs m k=r) (hP:∀ v m' aR,eC m' aR->k v m'=r->P (v,aR)):A g vs st.g fun v h=>P (v,⟨h,st.l⟩):=by
 obtain ⟨gn,t,ln,l⟩:=m
 obtain ⟨h1,h2,h3,h4⟩:=hs
 replace h:Cz.rec (motive:=fun _=>Rz) .none (fun v m=>Mem.rec (motive:=fun _=>Rz) (fun gn g=>k v (.mk gn g ln l)) m) (rf g vs (.mk gn t))=r:=h
 cases hq:rf g vs (.mk gn t) with
 |none=>rw [hq] at h;exact absurd h.symm hr
 |some v m'=>
  rw [hq] at h
  refine hA _ _ _ _ _ hq st.g ⟨h1,h3⟩ _ fun h' hm=>?_
  obtain ⟨n',t'⟩:=m'
  exact hP _ _ _ ⟨hm.1,h2,hm.2,h4⟩ h
end
instance Sw (n:Nat):OfNat aV n:=⟨.t n⟩
abbrev kI (n:Int):aV:=.c (.i .i64 n)
abbrev kT:aV:=.c (.b true)
abbrev kF:aV:=.c (.b false)
abbrev vI (n:Int):V:=.i .i64 n
abbrev vS:V:=.s []
abbrev oO (d:Nat) (o:pQ) (k:List Nat):cD:=⟨some d,o,none,k⟩
abbrev oM (d:Nat) (x:aV) (k:List Nat):cD:=⟨some d,.mv x,none,k⟩
abbrev oA (d:Nat) (x:aV) (k:List Nat):cD:=⟨some d,.IU x,none,k⟩
abbrev oN (o:pQ) (k:List Nat):cD:=⟨none,o,none,k⟩
abbrev oG (d:Nat) (o:pQ) (t:Nat) (k:List Nat):cD:=⟨some d,o,some (t,true),k⟩
abbrev rR (l:List cD):AC:=.Gb l
abbrev rS (l:List cD) (c:AC):AC:=.seq (.Gb l) c
abbrev oL (d s:Nat):cD:=oO d (.load none (.t s)) [s]
abbrev oK (d s:Nat):cD:=oO d (.load none (.t s)) []
abbrev oF (d f s:Nat):cD:=oO d (.jS f (.t s)) []
abbrev oE (d f s:Nat):cD:=oO d (.jS f (.t s)) [s]
abbrev oP (d s:Nat):cD:=oM d (.t s) []
abbrev oQ (d s:Nat):cD:=oM d (.t s) [s]
abbrev oB (d s:Nat):cD:=oA d (.t s) [s]
abbrev dq (i:Nat) (o:cD):aF:=⟨i,o,false,[]⟩
abbrev oX (d s i:Nat):cD:=oO d (.ext (.t s) i) []
end Go.Eng
