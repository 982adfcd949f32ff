/-
Code and functions: what the abstract run promises.
-/
import Derived.Test.YtdjbjnnfmkoceaaGreatY04
set_option linter.unusedVariables false
set_option linter.unusedSimpArgs false
namespace Go.Eng
open Go
def rW (K:Fr->St->Prop) (Q:Ex->Fr->St->Prop):Ex->Fr->St->Prop
 |.normal,fr,st=>K fr st
 |.exit id,fr,st=>Q (.exit id) fr st
 |.ret,fr,st=>Q .ret fr st
def jD (id:Nat) (Q:Ex->Fr->St->Prop):Ex->Fr->St->Prop
 |.exit ER,fr,st=>if ER=id then Q .normal fr st else Q (.exit ER) fr st
 |.normal,fr,st=>Q .normal fr st
 |.ret,fr,st=>Q .ret fr st
def pE (Q:Ex->Fr->St->Prop):Fr×St->Prop
 |(fr,st)=>Q .normal fr st
def Av (kill:List Nat):Fr×St->T (Fr×St)
 |(fr,st)=>fr.cut kill fun fr=>.ret (fr,st)
def Fr.le (f g:Fr):Prop:=∀ t,f.get t=g.get t\/f.get t=.bL
theorem Fr.le_refl (f:Fr):Fr.le f f:=fun _=>.inl rfl
theorem Fr.le_nil {g:Fr}:Fr.le [] g:=fun _=>.inr rfl
theorem Fr.aeX {n:Nat} {v:V} {r g:Fr} (h:g.get n=v) (hr:Fr.le r g):Fr.le ((n,v)::r) g:=by
 intro t
 simp only [Fr.get]
 split
 · rename_i hn;subst hn;exact .inl h.symm
 · exact hr t
theorem aS.le {E:Env} {N:Nat} {f g:Fr} {a:Act} (h:aS E N g a) (hl:Fr.le f g):aS E N f a:=by
 refine ⟨h.size,fun t=>?_⟩
 rcases hl t with h1|h1
 · rw [h1];exact h.rel t
 · rw [h1];exact .bL _
def rX (A:bK):AC->(Ex->Fr->St->Prop)->Fr->St->Prop
 |.skip,Q,fr,st=>Q .normal fr st
 |.EF ops,Q,fr,st=>(dM ops fr st).wp A (pE Q)
 |.BZ ds kill,Q,fr,st=>((gD [] ds fr st).bind (Av kill)).wp A (pE Q)
 |.seq a b,Q,fr,st=>rX A a (rW (rX A b Q) Q) fr st
 |.cond c a b,Q,fr,st=>match c.ev fr with
  |.b x=>wIf x (rX A a Q fr st) (rX A b Q fr st)
  |_=>False
 |.bI id b,Q,fr,st=>rX A b (jD id Q) fr st
 |.loop b,Q,fr,st=>∀ R:Fr->St->Prop,(∀ fr bV st,Fr.le bV fr->rX A b (rW R Q) bV st->R fr st)->R fr st
 |.exit id,Q,fr,st=>Q (.exit id) fr st
 |.ret,Q,fr,st=>Q .ret fr st
 |.no,_,_,_=>False
def wW (P:Program) (N:Nat):Code->AC->Bool
 |.skip,.skip=>true
 |.label _,.skip=>true
 |.region _ ops draw,.EF aEo=>!draw&&xZ P N ops ops.toList aEo
 |.region _ ops draw,.BZ ds _=>draw&&(Bb P N ops ds||Vq P N ops ds)
 |.seq a b,.seq A B=>wW P N a A&&wW P N b B
 |.cond c a b,.cond d A B=>cZ c d&&wW P N a A&&wW P N b B
 |.block id b,.bI ER B=>decide (id=ER)&&wW P N b B
 |.loop b,.loop B=>wW P N b B
 |.exit id,.exit ER=>decide (id=ER)
 |.ret,.ret=>true
 |_,.no=>true
 |_,_=>false
section
variable {P:Program} {N:Nat} {E0:Env} {st0:St} {w0:World}
structure IA (N:Nat) (E0:Env) (st0:St) (w0:World) (K:Fr->St->Prop) (a:Act) (w:World):Prop where
 ex:∃ fr st E,K fr st/\bQ E st w/\Ext E0 st0 w0 E st w/\aS E N fr a/\a.defers=[]
def p7 (N:Nat) (E0:Env) (st0:St) (w0:World) (Q:Ex->Fr->St->Prop):Exit->Act->World->Prop
 |.normal,a,w=>IA N E0 st0 w0 (Q .normal) a w
 |.exit id,a,w=>IA N E0 st0 w0 (Q (.exit id)) a w
 |.ret,a,w=>IA N E0 st0 w0 (Q .ret) a w
 |_,_,_=>False
def gI (P:Program) (c:Code) (Qm:Exit->Act->World->Prop) (a:Act) (w:World):Prop:=
 ∀ (b:Frame) (k:List Item) (cs:List Frame),∃ e a' w',Qm e a' w'/\Arrives P (lone (b.at a (.code c::.inLoop c::k)) cs w) b k cs e a' w'
theorem gI.loop {c:Code} {Qm:Exit->Act->World->Prop} {a:Act} {w:World} (h:gI P c Qm a w):(Code.loop c).wp P Qm a w:=
 fun b k cs=>let ⟨e,a',w',hq,IB⟩:=h b k cs;⟨e,a',w',hq,.of_steps (.one step_loop) IB⟩
theorem gI.round {c:Code} {Q:Ex->Fr->St->Prop} {R:Fr->St->Prop} {a:Act} {w:World} (h:c.wp P (p7 N E0 st0 w0 (rW R Q)) a w)
 (hR:∀ a w,IA N E0 st0 w0 R a w->gI P c (p7 N E0 st0 w0 Q) a w):gI P c (p7 N E0 st0 w0 Q) a w:=by
 intro b k cs
 obtain ⟨e,a₁,w₁,hq,IB⟩:=h b (.inLoop c::k) cs
 cases e with
 |normal=>
  obtain ⟨e₂,a₂,w₂,hq₂,Vw⟩:=hR a₁ w₁ hq b k cs
  exact ⟨e₂,a₂,w₂,hq₂,.of_steps (Steps.trans IB (.one step_inLoop)) Vw⟩
 |exit id=>exact ⟨.exit id,a₁,w₁,hq,.pass (x:=.inLoop c) rfl (fun _ _=>.inl (by simp)) IB⟩
 |ret=>exact ⟨.ret,a₁,w₁,hq,.pass (x:=.inLoop c) rfl (fun _ _=>.inl (by simp)) IB⟩
 |goto l=>exact hq.elim
 |panic ch=>exact hq.elim
 |outgrown=>exact hq.elim
theorem code_ok:∀ (A:AC) (c:Code),wW P N c A=true->∀ (Q:Ex->Fr->St->Prop) {fr:Fr} {st:St} {E:Env} {w:World} {a:Act},
 bQ E st w->Ext E0 st0 w0 E st w->aS E N fr a->a.defers=[]->rX (aE P) A Q fr st->c.wp P (p7 N E0 st0 w0 Q) a w
 |.skip,c,hk,Q,fr,st,E,w,a,hs,he,hf,hd,hw=>by
  cases c<;>simp [wW] at hk
  · exact wp_skip ⟨fr,st,E,hw,hs,he,hf,hd⟩
  · exact wp_label ⟨fr,st,E,hw,hs,he,hf,hd⟩
 |.EF aEo,c,hk,Q,fr,st,E,w,a,hs,he,hf,hd,hw=>by
  cases c<;>simp [wW] at hk
  rename_i id ops draw
  obtain ⟨rfl,hk⟩:=hk
  refine wp_region ?_
  have:=ops_ok (K:=pE Q) (Q:=p7 N E0 st0 w0 Q) aEo ops.toList 0 hk (fun k o h=>by simpa using h) hs hf hw (fun bV bA E' a' w' h1 h2 h3 h4 h5=>⟨bV,bA,E',h1,h2,he.trans h3,h4,h5.trans hd⟩)
  rw [List.range_eq_range']
  simpa using this
 |.BZ ds kill,c,hk,Q,fr,st,E,w,a,hs,he,hf,hd,hw=>by
  cases c<;>simp [wW] at hk
  rename_i id ops draw
  obtain ⟨rfl,hk⟩:=hk
  simp only [rX] at hw
  rw [T.wp_bind] at hw
  refine drawP_ok hk hs hf hw fun bV bA E' a' w' h1 h2 h3 h4 h5=>?_
  simp only [Av] at h1
  rw [Fr.b8] at h1
  refine ⟨bV.jZ kill,bA,E',h1,h2,he.trans h3,⟨h4.size,fun t=>?_⟩,h5.trans hd⟩
  rw [Fr.eC]
  split
  · exact .bL _
  · exact h4.rel t
 |.seq A B,c,hk,Q,fr,st,E,w,a,hs,he,hf,hd,hw=>by
  cases c<;>simp [wW] at hk
  rename_i x y
  refine wp_seq ?_
  refine wp_mono (code_ok A x hk.1 _ hs he hf hd hw) ?_
  intro e a' w' h
  cases e with
  |normal=>
   obtain ⟨bV,bA,E',h1,h2,h3,h4,h5⟩:=h
   exact code_ok B y hk.2 Q h2 h3 h4 h5 h1
  |exit id=>exact h
  |ret=>exact h
  |goto l=>exact h
  |panic ch=>exact h
  |outgrown=>exact h
 |.cond d A B,c,hk,Q,fr,st,E,w,a,hs,he,hf,hd,hw=>by
  cases c<;>simp [wW] at hk
  rename_i x y z
  have r1:=aQ hk.1.1 hf
  simp only [rX] at hw
  split at hw
  · rename_i b hb
    rw [hb] at r1
    exact wp_cond_split r1.bool (fun hb=>code_ok A y hk.1.2 Q hs he hf hd (hw.1 hb)) (fun hb=>code_ok B z hk.2 Q hs he hf hd (hw.2 hb))
  · exact hw.elim
 |.bI id B,c,hk,Q,fr,st,E,w,a,hs,he,hf,hd,hw=>by
  cases c<;>simp [wW] at hk
  rename_i ER x
  obtain ⟨rfl,hk⟩:=hk
  refine wp_block (wp_mono (code_ok B x hk _ hs he hf hd hw) ?_)
  intro e a' w' h
  cases e with
  |normal=>exact h
  |exit id=>
   obtain ⟨bV,bA,E',h1,h2⟩:=h
   simp only [jD] at h1
   simp only [Exit.inBlock]
   split
   · rename_i Gf;rw [if_pos Gf] at h1;exact ⟨bV,bA,E',h1,h2⟩
   · rename_i Gf;rw [if_neg Gf] at h1;exact ⟨bV,bA,E',h1,h2⟩
  |ret=>exact h
  |goto l=>exact h
  |panic ch=>exact h
  |outgrown=>exact h
 |.loop B,c,hk,Q,fr,st,E,w,a,hs,he,hf,hd,hw=>by
  cases c<;>simp [wW] at hk
  rename_i x
  have key:=hw (fun fr st=>∀ (E:Env) (w:World) (a:Act),bQ E st w->Ext E0 st0 w0 E st w->aS E N fr a->a.defers=[]->gI P x (p7 N E0 st0 w0 Q) a w) (by
   intro bV iW bA hle h' E' w' a' s1 s2 s3 s4
   refine gI.round (code_ok B x hk _ s1 s2 (s3.le hle) s4 h') ?_
   rintro a2 w2 ⟨fr2,PZ,E2,h1,h2,h3,h4,h5⟩
   exact h1 E2 w2 a2 h2 h3 h4 h5)
  exact (key E w a hs he hf hd).loop
 |.exit id,c,hk,Q,fr,st,E,w,a,hs,he,hf,hd,hw=>by
  cases c<;>simp [wW] at hk
  subst hk
  exact wp_exit ⟨fr,st,E,hw,hs,he,hf,hd⟩
 |.ret,c,hk,Q,fr,st,E,w,a,hs,he,hf,hd,hw=>by
  cases c<;>simp [wW] at hk
  exact wp_ret ⟨fr,st,E,hw,hs,he,hf,hd⟩
 |.no,c,hk,Q,fr,st,E,w,a,hs,he,hf,hd,hw=>hw.elim
end
def qP (P:Program):List ResultVar->List RV->Bool
 |[],[]=>true
 |.tmp t::r,.t n::q=>decide (t=n)&&qP P r q
 |.cell x t::r,.cell n sz::q=>decide (x=n)&&tO P t sz&&qP P r q
 |_,_=>false
def iY (P:Program) (f:Nat) (F:aF):Bool:=
 match P.funcs[f]? with
 |some fn=>match fn.body with
  |some c=>lF P f&&wW P fn.ntmps c F.body&&qP P fn.results.toList F.results&&decide (F.nparams<=fn.ntmps)
  |none=>false
 |none=>false
def mT (rs:List RV) (K:V->aC->Prop):Ex->Fr->St->Prop
 |.exit _,_,_=>False
 |.normal,fr,st=>match xT fr st rs with
  |some v=>K v st.g
  |none=>False
 |.ret,fr,st=>match xT fr st rs with
  |some v=>K v st.g
  |none=>False
section
variable {P:Program}
theorem j1:∀ (args:List V) (n t:Nat),(dN n args).get t=if n<=t then args.getD (t - n) .bL else .bL
 |[],n,t=>by simp [dN,Fr.get]
 |v::r,n,t=>by
  simp only [dN,Fr.get]
  by_cases h:n=t
  · subst h;simp
  · rw [if_neg h,j1 r (n+1) t]
    by_cases h1:n<=t
    · rw [if_pos h1,if_pos (by omega),show t - n=(t - (n+1))+1 by omega]
      simp
    · rw [if_neg h1,if_neg (by omega)]
theorem Dv {E:Env} {w:World} {a:Act} {N:Nat} {fr:Fr} {st:St} (hf:aS E N fr a) (hs:bQ E st w):∀ (rs:List ResultVar) (qs:List RV) (vs:List V),qP P rs qs=true->mP fr st qs=some vs->
 ∃ xs:List Value,(rs.mapM (fun
  |.tmp t=>pure (a.tmps.getD t undef)
  |.cell x t=>do loadVar t (<-asAddr (a.tmps.getD x undef)):ResultVar->Sem Value)).run P w=.ok xs w/\dY E.cut vs xs.toArray
 |[],[],vs,_,h=>by
  simp only [mP,Option.some.injEq] at h
  subst h
  exact ⟨[],rfl,rfl,fun j v x hj=>by simp at hj⟩
 |r::rs,[],vs,hk,h=>by cases r<;>simp [qP] at hk
 |[],q::qs,vs,hk,h=>by simp [qP] at hk
 |r::rs,q::qs,vs,hk,h=>by
  simp only [mP] at h
  split at h
  case h_2=>cases h
  rename_i v vr hv hvr
  simp only [Option.some.injEq] at h
  subst h
  have one:∃ x,((match r with
   |.tmp t=>pure (a.tmps.getD t undef)
   |.cell x t=>do loadVar t (<-asAddr (a.tmps.getD x undef)):Sem Value)).run P w=.ok x w/\Rel E.cut v x:=by
   cases r with
   |tmp t=>
    cases q with
    |cell=>simp [qP] at hk
    |t n=>
     simp only [qP,Bool.and_eq_true,decide_eq_true_eq] at hk
     obtain ⟨rfl,_⟩:=hk
     exact ⟨_,rfl,Ae hv (hf.rel t)⟩
   |cell y t=>
    cases q with
    |t n=>simp [qP] at hk
    |cell n sz=>
     simp only [qP,Bool.and_eq_true,decide_eq_true_eq] at hk
     obtain ⟨⟨rfl,hz⟩,_⟩:=hk
     simp only [Ie] at hv
     split at hv
     case h_2=>cases hv
     rename_i k off hp
     split at hv
     case h_2=>cases hv
     rename_i c eQ
     split at hv
     case h_2=>cases hv
     rename_i u hu
     have hr:=hf.rel y
     rw [hp] at hr
     generalize hyy:a.tmps.getD y undef=yy at hr
     cases hr with
     |deep hd=>cases hd
     |p _ _ l5=>
      obtain ⟨x,hx,AY⟩:=o5 (P:=P) hz ((hs.cs eQ).sG.mono (E.Aa k)) hu
      exact ⟨x,by simp only [hyy,asAddr,Sem.run_bind,Sem.run_pure,Result.andThen_ok];exact hx,Ae hv AY⟩
  obtain ⟨x,hx,AY⟩:=one
  have Q6:qP P rs qs=true:=by
   cases r<;>cases q<;>simp [qP] at hk
   · exact hk.2
   · exact hk.2
  obtain ⟨xs,hxs,hl⟩:=Dv hf hs rs qs vr Q6 hvr
  refine ⟨x::xs,?_,?_⟩
  · rw [List.mapM_cons]
    simp only [Sem.run_bind]
    rw [hx]
    simp only [Result.andThen_ok]
    rw [hxs]
    rfl
  · refine ⟨by simpa using hl.1,fun j u y hj hy=>?_⟩
    cases j with
    |zero=>simp at hj hy;subst hj;subst hy;exact AY
    |succ j=>exact hl.2 j u y (by simpa using hj) (by simpa using hy)
theorem ahT {f n:Nat} {rvs:List RV} {fn:Func} {c:Code} (U7:P.funcs[f]? =some fn) (hb:fn.body=some c) (k1:lF P f=true) (k3:qP P fn.results.toList rvs=true) (k4:n<=fn.ntmps)
 {args:List V} (hn:args.length=n) {h:aC} {K:V->aC->Prop}
 (hw:∀ (E:Env) (w:World) (a:Act),bQ E (gH h) w->aS E fn.ntmps (dN 0 args) a->a.defers=[]->c.wp P (p7 fn.ntmps E (gH h) w (mT rvs K)) a w):aE P f args h K:=by
 refine ⟨k1,fun E w vs Cb hs hv=>?_⟩
 refine calls_of_wp U7 hb ?_
 have hvl:=hv.1
 have K3:aS E fn.ntmps (dN 0 args) { tmps:=vs++Array.replicate (fn.ntmps - vs.size) undef,defers:=[] }:=by
  refine ⟨by simp;omega,fun t=>?_⟩
  rw [j1,if_pos (Nat.zero_le _),Nat.sub_zero]
  by_cases ht:t<args.length
  · have h1:args[t]? =some args[t]:=by simp [ht]
    obtain ⟨x,hx,hr⟩:=hv.get h1
    have:(vs++Array.replicate (fn.ntmps - vs.size) undef).getD t undef=x:=by
     rw [Array.getD_eq_getD_getElem?,Array.getElem?_append_left (by omega),hx];rfl
    rw [this]
    simp only [List.getD_eq_getElem?_getD,h1,Option.getD_some]
    exact hr
  · simp only [List.getD_eq_getElem?_getD,List.getElem?_eq_none (Nat.le_of_not_lt ht),Option.getD_none]
    exact .bL _
 refine wp_mono (hw E w _ hs K3 rfl) ?_
 have fin:∀ (a:Act) (w':World),IA fn.ntmps E (gH h) w (fun fr st=>match xT fr st rvs with|some v=>K v st.g|none=>False) a w'->
  a.defers=[]/\∃ v,(results fn a.tmps).run P w'=.ok v w'/\∃ v' x h' E',K v' h'/\Ending.returned v=.returned x/\E'.nl=0/\bQ E' (gH h') w'/\Ext E (gH h) w E' (gH h') w'/\Rel E' v' x:=by
  rintro a w' ⟨fr,st,E',hr,s1,s2,s3,s4⟩
  refine ⟨s4,?_⟩
  have O3:Ext E (gH h) w E'.cut (gH st.g) w':=by
   have hl:∀ k,(gH st.g).live k->st.live k:=by
    intro k hk
    obtain ⟨n,rfl,o,ho⟩:=lT hk
    exact ⟨o,ho⟩
   refine ⟨⟨s2.le.jR,s2.le.ng,by rw [Cb];exact Nat.zero_le _,s2.le.loc⟩,s2.size,s2.fX,fun k hk he=>s2.fT k (hl k hk) he,fun k hk he=>s2.gG k (hl k hk) he,s2.same,s2.os,s2.out,s2.tape⟩
  unfold xT at hr
  cases Ag:mP fr st rvs with
  |none=>rw [Ag] at hr;exact hr.elim
  |some us=>
   obtain ⟨xs,Oq,De⟩:=Dv (P:=P) s3 s1 fn.results.toList rvs us k3 Ag
   have hm:(fn.results.mapM (fun
    |.tmp t=>pure (a.tmps.getD t undef)
    |.cell x t=>do loadVar t (<-asAddr (a.tmps.getD x undef)):ResultVar->Sem Value)).run P w'=.ok xs.toArray w':=by
    have e:fn.results=fn.results.toList.toArray:=by simp
    rw [e,List.mapM_toArray,map_eq_pure_bind]
    simp only [Sem.run_bind,Oq,Result.andThen_ok,Sem.run_pure]
   have hlen:=De.1
   rw [Ag] at hr
   match us,xs,hlen,De,hr,hm with
   |[v],[x],_,De,hr,hm=>
    refine ⟨x,?_,v,x,st.g,E'.cut,hr,rfl,rfl,s1.cut,O3,De.2 0 v x rfl (by simp)⟩
    simp only [results,Sem.run_bind]
    exact eS hm (by simp)
   |[],[],_,De,hr,hm=>
    refine ⟨.tuple #[],?_,.bC [],.tuple #[],st.g,E'.cut,hr,rfl,rfl,s1.cut,O3,e8⟩
    simp only [results,Sem.run_bind]
    exact eS hm (by simp)
   |v1::v2::vr,x1::x2::xr,_,De,hr,hm=>
    refine ⟨.tuple (x1::x2::xr).toArray,?_,.bC (v1::v2::vr),_,st.g,E'.cut,hr,rfl,rfl,s1.cut,O3,.bC _ _ De.1 De.2⟩
    simp only [results,Sem.run_bind]
    exact eS hm (by simp)
 intro e a w' hq
 cases e with
 |normal=>exact fin a w' hq
 |ret=>exact fin a w' hq
 |exit id=>obtain ⟨fr,st,E',h1,_⟩:=hq;exact h1.elim
 |goto l=>exact hq.elim
 |panic ch=>exact hq.elim
 |outgrown=>exact hq.elim
theorem fn_ok {f:Nat} {F:aF} (hk:iY P f F=true) {args:List V} (hn:args.length=F.nparams) {h:aC} {K:V->aC->Prop}
 (hw:rX (aE P) F.body (mT F.results K) (dN 0 args) (gH h)):aE P f args h K:=by
 unfold iY at hk
 split at hk
 case h_2=>cases hk
 rename_i fn U7
 split at hk
 case h_2=>cases hk
 rename_i c hb
 simp only [Bool.and_eq_true,decide_eq_true_eq] at hk
 obtain ⟨⟨⟨k1,k2⟩,k3⟩,k4⟩:=hk
 exact ahT U7 hb k1 k3 k4 hn fun E w a hs K3 hd=>code_ok (E0:=E) (st0:=gH h) (w0:=w) F.body c k2 _ hs (.refl _ _ _) K3 hd hw
end
open Go
abbrev Orc:=Nat->List V->aC->Option (V×aC)
def awI (run:Orc) (args:List V) (h:aC):Option (V×aC):=
 match args with
 |[.p (.g k) off,.fn g first cap]=>match h.get k with
  |some (.cs c)=>match c[off]? with
   |some (.i .u32 d)=>match decide (d=0) with
    |true=>match c[off+1]? with
     |some (.i .i32 m)=>match decide (m=0) with
      |true=>match run g (first++cap) (h.set k (.cs (c.set (off+1) (.i .i32 1)))) with
       |some (_,h2)=>match h2.get k with
        |some (.cs c2)=>match c2[off]?,c2[off+1]? with
         |some (.i .u32 d2),some (.i .i32 m2)=>match decide (d2=0)&&decide (m2=1) with
          |true=>some (.bC [],h2.set k (.cs ((c2.set off (.i .u32 1)).set (off+1) (.i .i32 0))))
          |false=>none
         |_,_=>none
        |_=>none
       |none=>none
      |false=>none
     |_=>none
    |false=>some (.bC [],h)
   |_=>none
  |_=>none
 |_=>none
structure IC (P:Program) (once:Nat):Prop where
 done:∀ (k off g:Nat) (first cap c:List V) (d:Int) (h:aC) (K:V->aC->Prop),h.get k=some (.cs c)->c[off]? =some (.i .u32 d)->d≠0->K (.bC []) h->aE P once [.p (.g k) off,.fn g first cap] h K
 first:∀ (k off g:Nat) (first cap c:List V) (h:aC) (K:V->aC->Prop),h.get k=some (.cs c)->c[off]? =some (.i .u32 0)->c[off+1]? =some (.i .i32 0)->
  aE P g (first++cap) (h.set k (.cs (c.set (off+1) (.i .i32 1)))) (fun _ h2=>∃ c2,h2.get k=some (.cs c2)/\c2[off]? =some (.i .u32 0)/\c2[off+1]? =some (.i .i32 1)/\
   K (.bC []) (h2.set k (.cs ((c2.set off (.i .u32 1)).set (off+1) (.i .i32 0)))))->aE P once [.p (.g k) off,.fn g first cap] h K
def BL (P:Program) (fns:Nat->Option aF):Prop:=∀ f F,fns f=some F->iY P f F=true
inductive FT where
 |nil
 |node (l:FT) (k:Nat) (F:aF) (r:FT)
def FT.get:FT->Nat->Option aF
 |.nil,_=>none
 |.node l k F r,f=>match Nat.beq f k with
  |true=>some F
  |false=>match Nat.ble f k with
   |true=>l.get f
   |false=>r.get f
def FT.ok (P:Program):FT->Bool
 |.nil=>true
 |.node l k F r=>iY P k F&&(l.ok P&&r.ok P)
theorem FT.get_ok {P:Program}:∀ {t:FT},t.ok P=true->BL P t.get
 |.nil,_,f,F,h=>by simp [FT.get] at h
 |.node l k G r,hk,f,F,h=>by
  simp only [FT.ok,Bool.and_eq_true] at hk
  simp only [FT.get] at h
  split at h
  · rename_i hb
    have:=Nat.eq_of_beq_eq_true hb
    subst this
    cases h
    exact hk.1
  · split at h
    · exact FT.get_ok hk.2.1 f F h
    · exact FT.get_ok hk.2.2 f F h
theorem FT.node_ok {P:Program} {l r:FT} {k:Nat} {F:aF} (a:iY P k F=true) (b:l.ok P=true) (c:r.ok P=true):(FT.node l k F r).ok P=true:=by simp [FT.ok,a,b,c]
open Go
def V.flat:V->Bool
 |.b _=>true
 |.i _ _=>true
 |.s _=>true
 |.fM=>true
 |.aB=>true
 |.eG=>true
 |.fN=>true
 |.sl none _ _=>true
 |_=>false
def V.s7:V->Bool
 |.agg cs=>cs.all V.flat
 |.fn _ a c=>a.all V.flat&&c.all V.flat
 |v=>v.flat
def V.free:V->Bool
 |.bC cs=>cs.all V.s7
 |v=>v.s7
def K4 (I J:zZ):Prop:=∀ b o x,I b o=some x->J b o=some x
theorem Aw {E F:Env} (h:K4 E.I F.I) {v:V} {x:Value} (hv:v.flat=true) (hr:Rel E v x):Rel F v x:=by
 cases v<;>simp [V.flat] at hv
 case b=>cases hr with|deep hd=>exact .deep (hd.mono h)
 case i=>cases hr with|deep hd=>exact .deep (hd.mono h)
 case s=>cases hr with|deep hd=>exact .deep (hd.mono h)
 case fM=>cases hr with
  |deep hd=>exact .deep (hd.mono h)
  |fM=>exact .fM
 case aB=>cases hr with|deep hd=>exact .deep (hd.mono h)
 case eG=>cases hr with
  |deep hd=>exact .deep (hd.mono h)
  |eG=>exact .eG
 case fN=>cases hr with
  |deep hd=>exact .deep (hd.mono h)
  |fN=>exact .fN
 case sl tok sz es=>
  cases tok with
  |none=>cases hr with|deep hd=>exact .deep (hd.mono h)
  |some k=>simp at hv
theorem Gg {E F:Env} (h:K4 E.I F.I) {v:V} {x:Value} (hv:v.s7=true) (hr:Rel E v x):Rel F v x:=by
 cases v
 case agg cs=>
  simp only [V.s7,List.all_eq_true] at hv
  cases hr with
  |deep hd=>cases hd
  |agg _ a ha h1 T3=>exact .agg _ _ ha h1 fun j v x hj hx=>Aw h (hv v (List.mem_of_getElem? hj)) (T3 j v x hj hx)
 case fn f a c=>
  simp only [V.s7,Bool.and_eq_true,List.all_eq_true] at hv
  cases hr with
  |deep hd=>cases hd
  |fn _ _ _ a' c' ha hc T3 hrc=>exact .fn _ _ _ _ _ ha hc (fun j v x hj hx=>Aw h (hv.1 v (List.mem_of_getElem? hj)) (T3 j v x hj hx)) (fun j v x hj hx=>Aw h (hv.2 v (List.mem_of_getElem? hj)) (hrc j v x hj hx))
 all_goals exact Aw h hv hr
theorem Ax {E F:Env} (h:K4 E.I F.I) {v:V} {x:Value} (hv:v.free=true) (hr:Rel E v x):Rel F v x:=by
 cases v
 case bC cs=>
  simp only [V.free,List.all_eq_true] at hv
  cases hr with
  |deep hd=>cases hd
  |bC _ a ha T3=>exact .bC _ _ ha fun j v x hj hx=>Gg h (hv v (List.mem_of_getElem? hj)) (T3 j v x hj hx)
 all_goals exact Gg h hv hr
def CH:aC:=⟨0,[]⟩
theorem cJ {k:Key}:¬(gH CH).live k:=by
 rintro ⟨o,ho⟩
 cases k with
 |g n=>simp [St.get,CH,aC.get,aC.find] at ho
 |l n=>simp [St.get,noL,aC.get,aC.find] at ho
theorem aE.frame {P:Program} {f:Nat} {args:List V} {K0:V->aC->Prop} (h0:aE P f args CH K0) (ha:args.all V.free=true) {h:aC} {K:V->aC->Prop}
 (hK:∀ v h',K0 v h'->v.free=true/\K v h):aE P f args h K:=by
 refine ⟨h0.1,fun E w vs Cb hs hv=>?_⟩
 simp only [List.all_eq_true] at ha
 let E0:Env:={ I:=E.I,μ:=E.μ,ng:=0,nl:=0 }
 have hs0:bQ E0 (gH CH) w:=⟨rfl,rfl,fun k hk=>absurd hk cJ,hs.jR,fun k o hk=>absurd ⟨o,hk⟩ cJ,fun k k' hk=>absurd hk cJ,fun k hk=>absurd hk cJ⟩
 have hv0:dY E0 args vs:=⟨hv.1,fun j v x hj hx=>Ax (E:=E) (F:=E0) (fun b o x h=>h) (ha v (List.mem_of_getElem? hj)) (hv.2 j v x hj hx)⟩
 refine (h0.2 E0 w vs rfl hs0 hv0).mono ?_
 rintro e w' ⟨v,x,h',E',hk,rfl,hn,lB,he,hr⟩
 obtain ⟨P8,Iq⟩:=hK v h' hk
 have OA:K4 E.I E'.I:=he.le.jR
 have qK:∀ k,(gH h).live k->w'.heap[(E.μ k).bI]? =w.heap[(E.μ k).bI]? :=fun k hk=>he.same _ (hs.lt hk) fun k0 Ru=>absurd Ru cJ
 have hle:E.Le { E with I:=E'.I }:=⟨OA,Nat.le_refl _,Nat.le_refl _,fun _ _=>rfl⟩
 refine ⟨v,x,h,{ E with I:=E'.I },Iq,rfl,Cb,⟨hs.ng,hs.nl,fun k hk=>hs.j8 k hk,lB.jR,fun k o hk=>?_,fun k k' hk l5 dX=>hs.sep k k' hk l5 dX,fun k hk j h1 h2=>?_⟩,
  ⟨hle,he.size,fun b o x hx=>?_,fun k hk _=>hk,fun k hk hn=>absurd (hs.j8 k hk) hn,fun b hb _=>he.same b hb fun k hk=>absurd hk cJ,he.os,he.out,he.tape⟩,Ax (E:=E') (F:={ E with I:=E'.I }) (fun b o x h=>h) P8 hr⟩
 · exact (hs.obj k o hk).rK (Env.jS hle k) (qK k ⟨o,hk⟩)
 · show E'.I (E.μ k).bI j=none
   cases hx:E'.I (E.μ k).bI j with
   |none=>rfl
   |some y=>
    rcases he.fX _ _ _ hx with h3|h3|⟨k0,h3,_⟩
    · have:=hs.own k hk j h1 h2
      rw [show E0.I=E.I from rfl,this] at h3
      cases h3
    · have:=hs.lt hk
      omega
    · exact absurd h3 cJ
 · rcases he.fX b o x hx with h1|h1|⟨k0,h1,_⟩
   · exact .inl h1
   · exact .inr (.inl h1)
   · exact absurd h1 cJ
open Go
structure iE (α:Type) where
 run:α
structure Fa where
 a:V
 b:V
 c:V
 d:V
 e:V
 f:V
 g:V
 h:V
structure Fb where
 a:Fa
 b:Fa
 c:Fa
 d:Fa
 e:Fa
 f:Fa
 g:Fa
 h:Fa
structure Fc where
 a:Fb
 b:Fb
 c:Fb
 d:Fb
 e:Fb
 f:Fb
 g:Fb
 h:Fb
inductive TH where
 |nil
 |leaf (n:Nat) (o:Obj)
 |node (a b c d:TH)
inductive SM where
 |mk (gn:Nat) (g:TH) (ln:Nat) (l:TH)
inductive Mem where
 |mk (n:Nat) (t:TH)
inductive Rz where
 |none
 |p8 (fr:Fc) (st:SM)
 |exit (id:Nat) (fr:Fc) (st:SM)
 |ret (fr:Fc) (st:SM)
inductive Cz where
 |none
 |some (v:V) (m:Mem)
section
variable {α:Type}
noncomputable def aT (c:Bool) (t e:α):α:=Bool.rec (motive:=fun _=>α) e t c
noncomputable def bM {δ:Type} (o:Option δ) (n:α) (k:δ->α):α:=Option.rec (motive:=fun _=>α) n k o
noncomputable def fW (b:Nat) (w x y z:α):α:=Nat.rec (motive:=fun _=>α) w (fun p _=>Nat.rec (motive:=fun _=>α) x (fun p _=>Nat.rec (motive:=fun _=>α) y (fun _ _=>z) p) p) (Nat.mod b 4)
noncomputable def Gh (n:Nat) (p q r s t u v w:α):α:=Nat.rec (motive:=fun _=>α) p (fun n _=>Nat.rec (motive:=fun _=>α) q (fun n _=>Nat.rec (motive:=fun _=>α) r (fun n _=>Nat.rec (motive:=fun _=>α) s (fun n _=>Nat.rec (motive:=fun _=>α) t (fun n _=>Nat.rec (motive:=fun _=>α) u (fun n _=>Nat.rec (motive:=fun _=>α) v (fun _ _=>w) n) n) n) n) n) n) n
noncomputable def uH (n:Nat) (k:Nat->α):α:=Nat.rec (motive:=fun _=>α) (k 0) (fun m _=>k (Nat.succ m)) n
noncomputable def P9 (n:Nat):iE (Fa->V):=Gh n ⟨fun f=>Fa.a f⟩ ⟨fun f=>Fa.b f⟩ ⟨fun f=>Fa.c f⟩ ⟨fun f=>Fa.d f⟩ ⟨fun f=>Fa.e f⟩ ⟨fun f=>Fa.f f⟩ ⟨fun f=>Fa.g f⟩ ⟨fun f=>Fa.h f⟩
noncomputable def Vx (n:Nat):iE (Fa->V->(Fa->α)->α):=Gh n
 ⟨fun f x k=>Fa.rec (motive:=fun _=>α) (fun _ b c d e f g h=>k (.mk x b c d e f g h)) f⟩
 ⟨fun f x k=>Fa.rec (motive:=fun _=>α) (fun a _ c d e f g h=>k (.mk a x c d e f g h)) f⟩
 ⟨fun f x k=>Fa.rec (motive:=fun _=>α) (fun a b _ d e f g h=>k (.mk a b x d e f g h)) f⟩
 ⟨fun f x k=>Fa.rec (motive:=fun _=>α) (fun a b c _ e f g h=>k (.mk a b c x e f g h)) f⟩
 ⟨fun f x k=>Fa.rec (motive:=fun _=>α) (fun a b c d _ f g h=>k (.mk a b c d x f g h)) f⟩
 ⟨fun f x k=>Fa.rec (motive:=fun _=>α) (fun a b c d e _ g h=>k (.mk a b c d e x g h)) f⟩
 ⟨fun f x k=>Fa.rec (motive:=fun _=>α) (fun a b c d e f _ h=>k (.mk a b c d e f x h)) f⟩
 ⟨fun f x k=>Fa.rec (motive:=fun _=>α) (fun a b c d e f g _=>k (.mk a b c d e f g x)) f⟩
noncomputable def Dw (n:Nat):iE (Fb->Fa):=Gh n ⟨fun f=>Fb.a f⟩ ⟨fun f=>Fb.b f⟩ ⟨fun f=>Fb.c f⟩ ⟨fun f=>Fb.d f⟩ ⟨fun f=>Fb.e f⟩ ⟨fun f=>Fb.f f⟩ ⟨fun f=>Fb.g f⟩ ⟨fun f=>Fb.h f⟩
noncomputable def Vy (n:Nat):iE (Fb->Fa->(Fb->α)->α):=Gh n
 ⟨fun f x k=>Fb.rec (motive:=fun _=>α) (fun _ b c d e f g h=>k (.mk x b c d e f g h)) f⟩
 ⟨fun f x k=>Fb.rec (motive:=fun _=>α) (fun a _ c d e f g h=>k (.mk a x c d e f g h)) f⟩
 ⟨fun f x k=>Fb.rec (motive:=fun _=>α) (fun a b _ d e f g h=>k (.mk a b x d e f g h)) f⟩
 ⟨fun f x k=>Fb.rec (motive:=fun _=>α) (fun a b c _ e f g h=>k (.mk a b c x e f g h)) f⟩
 ⟨fun f x k=>Fb.rec (motive:=fun _=>α) (fun a b c d _ f g h=>k (.mk a b c d x f g h)) f⟩
 ⟨fun f x k=>Fb.rec (motive:=fun _=>α) (fun a b c d e _ g h=>k (.mk a b c d e x g h)) f⟩
 ⟨fun f x k=>Fb.rec (motive:=fun _=>α) (fun a b c d e f _ h=>k (.mk a b c d e f x h)) f⟩
 ⟨fun f x k=>Fb.rec (motive:=fun _=>α) (fun a b c d e f g _=>k (.mk a b c d e f g x)) f⟩
noncomputable def x9 (n:Nat):iE (Fc->Fb):=Gh n ⟨fun f=>Fc.a f⟩ ⟨fun f=>Fc.b f⟩ ⟨fun f=>Fc.c f⟩ ⟨fun f=>Fc.d f⟩ ⟨fun f=>Fc.e f⟩ ⟨fun f=>Fc.f f⟩ ⟨fun f=>Fc.g f⟩ ⟨fun f=>Fc.h f⟩
noncomputable def Vz (n:Nat):iE (Fc->Fb->(Fc->α)->α):=Gh n
 ⟨fun f x k=>Fc.rec (motive:=fun _=>α) (fun _ b c d e f g h=>k (.mk x b c d e f g h)) f⟩
 ⟨fun f x k=>Fc.rec (motive:=fun _=>α) (fun a _ c d e f g h=>k (.mk a x c d e f g h)) f⟩
 ⟨fun f x k=>Fc.rec (motive:=fun _=>α) (fun a b _ d e f g h=>k (.mk a b x d e f g h)) f⟩
 ⟨fun f x k=>Fc.rec (motive:=fun _=>α) (fun a b c _ e f g h=>k (.mk a b c x e f g h)) f⟩
 ⟨fun f x k=>Fc.rec (motive:=fun _=>α) (fun a b c d _ f g h=>k (.mk a b c d x f g h)) f⟩
 ⟨fun f x k=>Fc.rec (motive:=fun _=>α) (fun a b c d e _ g h=>k (.mk a b c d e x g h)) f⟩
 ⟨fun f x k=>Fc.rec (motive:=fun _=>α) (fun a b c d e f _ h=>k (.mk a b c d e f x h)) f⟩
 ⟨fun f x k=>Fc.rec (motive:=fun _=>α) (fun a b c d e f g _=>k (.mk a b c d e f g x)) f⟩
noncomputable def jE (n:Nat):iE (Fc->V):=aT (Nat.ble n 511) ⟨fun f=>(P9 (Nat.mod n 8)).run ((Dw (Nat.mod (Nat.div n 8) 8)).run ((x9 (Nat.div n 64)).run f))⟩ ⟨fun _=>.bL⟩
noncomputable def O4 (n:Nat) (no:α):iE (Fc->V->(Fc->α)->α):=aT (Nat.ble n 511) ⟨fun f v k=>(Vx (Nat.mod n 8)).run ((Dw (Nat.mod (Nat.div n 8) 8)).run ((x9 (Nat.div n 64)).run f)) v fun a=>(Vy (Nat.mod (Nat.div n 8) 8)).run ((x9 (Nat.div n 64)).run f) a fun b=>(Vz (Nat.div n 64)).run f b k⟩ ⟨fun _ _ _=>no⟩
def fa0:Fa:=⟨.bL,.bL,.bL,.bL,.bL,.bL,.bL,.bL⟩
def fb0:Fb:=⟨fa0,fa0,fa0,fa0,fa0,fa0,fa0,fa0⟩
def Qa:Fc:=⟨fb0,fb0,fb0,fb0,fb0,fb0,fb0,fb0⟩
noncomputable def TH.get (t:TH):Nat->Nat->Option Obj:=
 TH.rec (motive:=fun _=>Nat->Nat->Option Obj) (fun _ _=>.none) (fun k o _ n=>aT (Nat.beq k n) (.some o) .none)
  (fun _ _ _ _ ia ib ic id b n=>fW b ia ib ic id (Nat.div b 4) n) t
noncomputable def TH.two (fuel:Nat):Nat->Nat->TH->TH->(TH->α)->α:=Nat.rec (motive:=fun _=>Nat->Nat->TH->TH->(TH->α)->α) (fun _ _ s _ k=>k s)
 (fun _ ih b c s t k=>aT (Nat.beq (Nat.mod b 4) (Nat.mod c 4))
   (ih (Nat.div b 4) (Nat.div c 4) s t fun r=>fW b (k (node r nil nil nil)) (k (node nil r nil nil)) (k (node nil nil r nil)) (k (node nil nil nil r)))
   (fW b (fW c (k s) (k (node s t nil nil)) (k (node s nil t nil)) (k (node s nil nil t))) (fW c (k (node t s nil nil)) (k s) (k (node nil s t nil)) (k (node nil s nil t)))
     (fW c (k (node t nil s nil)) (k (node nil t s nil)) (k s) (k (node nil nil s t))) (fW c (k (node t nil nil s)) (k (node nil t nil s)) (k (node nil nil t s)) (k s)))) fuel
noncomputable def TH.put (n:Nat) (o:Obj) (t:TH):Nat->Nat->(TH->α)->α:=
 TH.rec (motive:=fun _=>Nat->Nat->(TH->α)->α) (fun _ _ k=>k (leaf n o)) (fun j u b p k=>aT (Nat.beq j n) (k (leaf n o)) (TH.two 40 b (Nat.div j p) (leaf n o) (leaf j u) k))
  (fun a b c d ia ib ic id x p k=>fW x (ia (Nat.div x 4) (Nat.mul p 4) fun r=>k (node r b c d)) (ib (Nat.div x 4) (Nat.mul p 4) fun r=>k (node a r c d)) (ic (Nat.div x 4) (Nat.mul p 4) fun r=>k (node a b r d)) (id (Nat.div x 4) (Nat.mul p 4) fun r=>k (node a b c r))) t
noncomputable def TH.del (n:Nat) (t:TH):Nat->(TH->α)->α:=
 TH.rec (motive:=fun _=>Nat->(TH->α)->α) (fun _ k=>k nil) (fun j u _ k=>aT (Nat.beq j n) (k nil) (k (leaf j u)))
  (fun a b c d ia ib ic id x k=>fW x (ia (Nat.div x 4) fun r=>k (node r b c d)) (ib (Nat.div x 4) fun r=>k (node a r c d)) (ic (Nat.div x 4) fun r=>k (node a b r d)) (id (Nat.div x 4) fun r=>k (node a b c r))) t
noncomputable def SM.cas (st:SM) (k:Nat->TH->Nat->TH->α):α:=SM.rec (motive:=fun _=>α) k st
noncomputable def pF (k:Key) (g l:Nat->α):α:=Key.rec (motive:=fun _=>α) g l k
noncomputable def SM.look (st:SM) (key:Key):Option Obj:=st.cas fun _ g _ l=>pF key (fun n=>g.get n n) (fun n=>l.get n n)
noncomputable def SM.set (st:SM) (key:Key) (o:Obj) (k:SM->α):α:=st.cas fun gn g ln l=>pF key (fun n=>TH.put n o g n 1 fun g=>k (.mk gn g ln l)) (fun n=>TH.put n o l n 1 fun l=>k (.mk gn g ln l))
noncomputable def SM.drop (st:SM) (key:Key) (k:SM->α):α:=st.cas fun gn g ln l=>pF key (fun n=>TH.del n g n fun g=>k (.mk gn g ln l)) (fun n=>TH.del n l n fun l=>k (.mk gn g ln l))
noncomputable def SM.push (st:SM) (b:Bool) (o:Obj) (k:Key->SM->α):α:=st.cas fun gn g ln l=>
 aT b (TH.put gn o g gn 1 fun g=>uH (Nat.add gn 1) fun n=>k (.g gn) (.mk n g ln l)) (TH.put ln o l ln 1 fun l=>uH (Nat.add ln 1) fun n=>k (.l ln) (.mk gn g n l))
noncomputable def Qb (n:Nat) (ks:List Nat):Bool:=List.rec (motive:=fun _=>Bool) false (fun k _ ih=>aT (Nat.beq n k) true ih) ks
noncomputable def vB (d:α) (b:Bool->α) (v:V):α:=V.rec (motive_1:=fun _=>α) (motive_2:=fun _=>α) (motive_3:=fun _=>α) b (fun _ _=>d) (fun _=>d) d (fun _ _=>d) (fun _ _ _ _=>d) (fun _ _ _=>d) d (fun _ _ _ _=>d) (fun _ _ _ _=>d) d (fun _=>d) (fun _ _ _ _ _=>d) d (fun _ _=>d) (fun _ _=>d) d d (fun _ _ _ _=>d) d (fun _ _ _ _=>d) v
noncomputable def fU (d:α) (i:IntKind->Int->α) (v:V):α:=V.rec (motive_1:=fun _=>α) (motive_2:=fun _=>α) (motive_3:=fun _=>α) (fun _=>d) i (fun _=>d) d (fun _ _=>d) (fun _ _ _ _=>d) (fun _ _ _=>d) d (fun _ _ _ _=>d) (fun _ _ _ _=>d) d (fun _=>d) (fun _ _ _ _ _=>d) d (fun _ _=>d) (fun _ _=>d) d d (fun _ _ _ _=>d) d (fun _ _ _ _=>d) v
noncomputable def mB (d:α) (s:(List UInt8)->α) (v:V):α:=V.rec (motive_1:=fun _=>α) (motive_2:=fun _=>α) (motive_3:=fun _=>α) (fun _=>d) (fun _ _=>d) s d (fun _ _=>d) (fun _ _ _ _=>d) (fun _ _ _=>d) d (fun _ _ _ _=>d) (fun _ _ _ _=>d) d (fun _=>d) (fun _ _ _ _ _=>d) d (fun _ _=>d) (fun _ _=>d) d d (fun _ _ _ _=>d) d (fun _ _ _ _=>d) v
noncomputable def vIS (d:α) (i:IntKind->Int->α) (s:(List UInt8)->α) (v:V):α:=V.rec (motive_1:=fun _=>α) (motive_2:=fun _=>α) (motive_3:=fun _=>α) (fun _=>d) i s d (fun _ _=>d) (fun _ _ _ _=>d) (fun _ _ _=>d) d (fun _ _ _ _=>d) (fun _ _ _ _=>d) d (fun _=>d) (fun _ _ _ _ _=>d) d (fun _ _=>d) (fun _ _=>d) d d (fun _ _ _ _=>d) d (fun _ _ _ _=>d) v
noncomputable def vP (d:α) (p:Key->Nat->α) (pa:Key->Nat->Nat->Nat->α) (pc:(List V)->Nat->α) (v:V):α:=V.rec (motive_1:=fun _=>α) (motive_2:=fun _=>α) (motive_3:=fun _=>α) (fun _=>d) (fun _ _=>d) (fun _=>d) d p pa (fun w x _=>pc w x) d (fun _ _ _ _=>d) (fun _ _ _ _=>d) d (fun _=>d) (fun _ _ _ _ _=>d) d (fun _ _=>d) (fun _ _=>d) d d (fun _ _ _ _=>d) d (fun _ _ _ _=>d) v
noncomputable def vQ (d:α) (p:Key->Nat->α) (pa:Key->Nat->Nat->Nat->α) (pc:(List V)->Nat->α) (fn:Nat->(List V)->(List V)->α) (v:V):α:=V.rec (motive_1:=fun _=>α) (motive_2:=fun _=>α) (motive_3:=fun _=>α) (fun _=>d) (fun _ _=>d) (fun _=>d) d p pa (fun w x _=>pc w x) d (fun _ _ _ _=>d) (fun _ _ _ _=>d) d (fun _=>d) (fun w x y _ _=>fn w x y) d (fun _ _=>d) (fun _ _=>d) d d (fun _ _ _ _=>d) d (fun _ _ _ _=>d) v
noncomputable def vL (d:α) (s:(List UInt8)->α) (aB:α) (sl:(Option Key)->Nat->(List (List V))->α) (ms:Key->Nat->Nat->Nat->α) (v:V):α:=V.rec (motive_1:=fun _=>α) (motive_2:=fun _=>α) (motive_3:=fun _=>α) (fun _=>d) (fun _ _=>d) s d (fun _ _=>d) (fun _ _ _ _=>d) (fun _ _ _=>d) aB (fun w x y _=>sl w x y) ms d (fun _=>d) (fun _ _ _ _ _=>d) d (fun _ _=>d) (fun _ _=>d) d d (fun _ _ _ _=>d) d (fun _ _ _ _=>d) v
noncomputable def vM (d:α) (eG:α) (m:Key->α) (v:V):α:=V.rec (motive_1:=fun _=>α) (motive_2:=fun _=>α) (motive_3:=fun _=>α) (fun _=>d) (fun _ _=>d) (fun _=>d) d (fun _ _=>d) (fun _ _ _ _=>d) (fun _ _ _=>d) d (fun _ _ _ _=>d) (fun _ _ _ _=>d) eG m (fun _ _ _ _ _=>d) d (fun _ _=>d) (fun _ _=>d) d d (fun _ _ _ _=>d) d (fun _ _ _ _=>d) v
noncomputable def vA (d:α) (agg:(List V)->α) (v:V):α:=V.rec (motive_1:=fun _=>α) (motive_2:=fun _=>α) (motive_3:=fun _=>α) (fun _=>d) (fun _ _=>d) (fun _=>d) d (fun _ _=>d) (fun _ _ _ _=>d) (fun _ _ _=>d) d (fun _ _ _ _=>d) (fun _ _ _ _=>d) d (fun _=>d) (fun _ _ _ _ _=>d) d (fun w _=>agg w) (fun _ _=>d) d d (fun _ _ _ _=>d) d (fun _ _ _ _=>d) v
noncomputable def vT (d:α) (bC:(List V)->α) (v:V):α:=V.rec (motive_1:=fun _=>α) (motive_2:=fun _=>α) (motive_3:=fun _=>α) (fun _=>d) (fun _ _=>d) (fun _=>d) d (fun _ _=>d) (fun _ _ _ _=>d) (fun _ _ _=>d) d (fun _ _ _ _=>d) (fun _ _ _ _=>d) d (fun _=>d) (fun _ _ _ _ _=>d) d (fun _ _=>d) (fun w _=>bC w) d d (fun _ _ _ _=>d) d (fun _ _ _ _=>d) v
noncomputable def vF (d:α) (fn:Nat->(List V)->(List V)->α) (v:V):α:=V.rec (motive_1:=fun _=>α) (motive_2:=fun _=>α) (motive_3:=fun _=>α) (fun _=>d) (fun _ _=>d) (fun _=>d) d (fun _ _=>d) (fun _ _ _ _=>d) (fun _ _ _=>d) d (fun _ _ _ _=>d) (fun _ _ _ _=>d) d (fun _=>d) (fun w x y _ _=>fn w x y) d (fun _ _=>d) (fun _ _=>d) d d (fun _ _ _ _=>d) d (fun _ _ _ _=>d) v
noncomputable def vNp (d:α) (fM:α) (p:Key->Nat->α) (pa:Key->Nat->Nat->Nat->α) (v:V):α:=V.rec (motive_1:=fun _=>α) (motive_2:=fun _=>α) (motive_3:=fun _=>α) (fun _=>d) (fun _ _=>d) (fun _=>d) fM p pa (fun _ _ _=>d) d (fun _ _ _ _=>d) (fun _ _ _ _=>d) d (fun _=>d) (fun _ _ _ _ _=>d) d (fun _ _=>d) (fun _ _=>d) d d (fun _ _ _ _=>d) d (fun _ _ _ _=>d) v
noncomputable def vNf (d:α) (fN:α) (fn:Nat->(List V)->(List V)->α) (v:V):α:=V.rec (motive_1:=fun _=>α) (motive_2:=fun _=>α) (motive_3:=fun _=>α) (fun _=>d) (fun _ _=>d) (fun _=>d) d (fun _ _=>d) (fun _ _ _ _=>d) (fun _ _ _=>d) d (fun _ _ _ _=>d) (fun _ _ _ _=>d) d (fun _=>d) (fun w x y _ _=>fn w x y) fN (fun _ _=>d) (fun _ _=>d) d d (fun _ _ _ _=>d) d (fun _ _ _ _=>d) v
noncomputable def vN4 (d:α) (fM:α) (aB:α) (eG:α) (fN:α) (v:V):α:=V.rec (motive_1:=fun _=>α) (motive_2:=fun _=>α) (motive_3:=fun _=>α) (fun _=>d) (fun _ _=>d) (fun _=>d) fM (fun _ _=>d) (fun _ _ _ _=>d) (fun _ _ _=>d) aB (fun _ _ _ _=>d) (fun _ _ _ _=>d) eG (fun _=>d) (fun _ _ _ _ _=>d) fN (fun _ _=>d) (fun _ _=>d) d d (fun _ _ _ _=>d) d (fun _ _ _ _=>d) v
noncomputable def vG (d:α) (b:Bool->α) (bC:(List V)->α) (v:V):α:=V.rec (motive_1:=fun _=>α) (motive_2:=fun _=>α) (motive_3:=fun _=>α) b (fun _ _=>d) (fun _=>d) d (fun _ _=>d) (fun _ _ _ _=>d) (fun _ _ _=>d) d (fun _ _ _ _=>d) (fun _ _ _ _=>d) d (fun _=>d) (fun _ _ _ _ _=>d) d (fun _ _=>d) (fun w _=>bC w) d d (fun _ _ _ _=>d) d (fun _ _ _ _=>d) v
noncomputable def vK (k:V->α) (v:V):α:=V.rec (motive_1:=fun _=>α) (motive_2:=fun _=>α) (motive_3:=fun _=>α) (fun w=>k (.b w)) (fun w x=>k (.i w x)) (fun w=>k (.s w)) (k .fM) (fun w x=>k (.p w x)) (fun w x y z=>k (.pa w x y z)) (fun w x _=>(fun w x=>k (.pc w x)) w x) (k .aB) (fun w x y _=>(fun w x y=>k (.sl w x y)) w x y) (fun w x y z=>k (.ms w x y z)) (k .eG) (fun w=>k (.m w)) (fun w x y _ _=>(fun w x y=>k (.fn w x y)) w x y) (k .fN) (fun w _=>(fun w=>k (.agg w)) w) (fun w _=>(fun w=>k (.bC w)) w) (k .bL) (k .bL) (fun _ _ _ _=>k .bL) (k .bL) (fun _ _ _ _=>k .bL) v
noncomputable def vC (d:α) (k:List V->α) (v:V):α:=V.rec (motive_1:=fun _=>α) (motive_2:=fun _=>α) (motive_3:=fun _=>α) (fun w=>k [(.b w)]) (fun w x=>k [(.i w x)]) (fun w=>k [(.s w)]) (k [.fM]) (fun w x=>k [(.p w x)]) (fun w x y z=>k [(.pa w x y z)]) (fun _ _ _=>d) (k [.aB]) (fun w x y _=>(fun w x y=>k [(.sl w x y)]) w x y) (fun w x y z=>k [(.ms w x y z)]) (k [.eG]) (fun w=>k [(.m w)]) (fun w x y _ _=>(fun w x y=>k [(.fn w x y)]) w x y) (k [.fN]) (fun w _=>k w) (fun _ _=>d) d d (fun _ _ _ _=>d) d (fun _ _ _ _=>d) v
noncomputable def ayB (d:α) (k:List V->α) (v:V):α:=V.rec (motive_1:=fun _=>α) (motive_2:=fun _=>α) (motive_3:=fun _=>α) (fun w=>k [(.b w)]) (fun w x=>k [(.i w x)]) (fun w=>k [(.s w)]) (k [.fM]) (fun w x=>k [(.p w x)]) (fun w x y z=>k [(.pa w x y z)]) (fun w x _=>(fun w x=>k [(.pc w x)]) w x) (k [.aB]) (fun w x y _=>(fun w x y=>k [(.sl w x y)]) w x y) (fun w x y z=>k [(.ms w x y z)]) (k [.eG]) (fun w=>k [(.m w)]) (fun w x y _ _=>(fun w x y=>k [(.fn w x y)]) w x y) (k [.fN]) (fun _ _=>d) (fun w _=>(fun w=>k [(.bC w)]) w) (k [.bL]) d (fun _ _ _ _=>d) d (fun _ _ _ _=>d) v
noncomputable def Gi (cs:List V->α) (arr:Nat->List (List V)->α) (sp:α) (mp:Option IntKind->List (V×V)->α) (o:Obj):α:=Obj.rec (motive:=fun _=>α) cs arr sp mp o
noncomputable def iC (k:Nat->α) (j:Nat->α) (x:Int):α:=Int.rec (motive:=fun _=>α) k j x
end
section
variable {δ:Type}
noncomputable def iS (l:List δ):Nat->Option δ:=List.rec (motive:=fun _=>Nat->Option δ) (fun _=>none) (fun a _ ih n=>Nat.rec (motive:=fun _=>Option δ) (some a) (fun m _=>ih m) n) l
noncomputable def cK (l:List δ):Nat:=List.rec (motive:=fun _=>Nat) 0 (fun _ _ ih=>Nat.add ih 1) l
noncomputable def wX (l m:List δ):List δ:=List.rec (motive:=fun _=>List δ) m (fun a _ ih=>a::ih) l
noncomputable def lW (l:List δ):Nat->List δ:=List.rec (motive:=fun _=>Nat->List δ) (fun _=>[]) (fun a r ih n=>Nat.rec (motive:=fun _=>List δ) (a::r) (fun m _=>ih m) n) l
noncomputable def pH (l:List δ):Nat->List δ:=List.rec (motive:=fun _=>Nat->List δ) (fun _=>[]) (fun a _ ih n=>Nat.rec (motive:=fun _=>List δ) [] (fun m _=>a::ih m) n) l
noncomputable def Rv (l:List δ):Nat->δ->List δ:=List.rec (motive:=fun _=>Nat->δ->List δ) (fun _ _=>[]) (fun a r ih n x=>Nat.rec (motive:=fun _=>List δ) (x::r) (fun m _=>a::ih m x) n) l
noncomputable def spell {α:Type} (l:List δ):(List δ->α)->α:=List.rec (motive:=fun _=>(List δ->α)->α) (fun k=>k []) (fun a _ ih k=>ih fun r=>k (a::r)) l
noncomputable def sS (l:List δ):Nat->List δ->List δ:=List.rec (motive:=fun _=>Nat->List δ->List δ) (fun _ _=>[]) (fun a r ih n vs=>Nat.rec (motive:=fun _=>List δ) (List.rec (motive:=fun _=>List δ) (a::r) (fun v q _=>v::ih 0 q) vs) (fun m _=>a::ih m vs) n) l
noncomputable def K5 (n:Nat):List δ->Option (List δ):=Nat.rec (motive:=fun _=>List δ->Option (List δ)) (fun _=>some []) (fun _ ih l=>List.rec (motive:=fun _=>Option (List δ)) none (fun a r _=>bM (ih r) none fun x=>some (a::x)) l) n
noncomputable def O5 (n:Nat) (x:δ):List δ:=Nat.rec (motive:=fun _=>List δ) [] (fun _ ih=>x::ih) n
noncomputable def lX (f:δ->Option δ) (l:List δ):Option (List δ):=List.rec (motive:=fun _=>Option (List δ)) (some []) (fun v _ ih=>bM (f v) none fun x=>bM ih none fun y=>some (x::y)) l
end
noncomputable def Qc (cs:List V) (off:Nat) (n:Option Nat):Option V:=
 Option.rec (motive:=fun _=>Option V) (iS cs off) (fun n=>aT (Nat.beq n 0) (dF cs off (some 0)) (bM (K5 n (lW cs off)) none fun x=>some (.agg x))) n
noncomputable def kIx (k:IntKind):Nat:=IntKind.rec (motive:=fun _=>Nat) 0 1 2 3 4 5 6 7 k
noncomputable def qZ (k k':IntKind):Bool:=Nat.beq (kIx k) (kIx k')
noncomputable def Ov (x y:Int):Bool:=iC (fun a=>iC (fun b=>Nat.ble (Nat.add a 1) b) (fun _=>false) y) (fun a=>iC (fun _=>true) (fun b=>Nat.ble (Nat.add b 1) a) y) x
noncomputable def Rw (x y:Int):Bool:=iC (fun a=>iC (fun b=>Nat.beq a b) (fun _=>false) y) (fun a=>iC (fun _=>false) (fun b=>Nat.beq a b) y) x
noncomputable def jF (b:Bool):Bool:=aT b false true
noncomputable def ajE (x y:Int):Int:=iC (fun a=>iC (fun b=>.ofNat (Nat.add a b)) (fun _=>x+y) y) (fun _=>x+y) x
noncomputable def aoU (x y:Int):Int:=iC (fun a=>iC (fun b=>aT (Nat.ble b a) (.ofNat (Nat.sub a b)) (x - y)) (fun _=>x - y) y) (fun _=>x - y) x
noncomputable def aoV (x y:Int):Int:=iC (fun a=>iC (fun b=>.ofNat (Nat.mul a b)) (fun _=>x*y) y) (fun _=>x*y) x
noncomputable def wr (k:IntKind) (n:Int):Int:=iC (fun a=>
 IntKind.rec (motive:=fun _=>Int) (k.wrap n) (k.wrap n) (k.wrap n) (aT (Nat.ble a 9223372036854775807) (.ofNat a) (k.wrap n)) (.ofNat (Nat.mod a 256)) (.ofNat (Nat.mod a 65536)) (.ofNat (Nat.mod a 4294967296)) (.ofNat (Nat.mod a 18446744073709551616)) k)
 (fun _=>k.wrap n) n
noncomputable def Cf (c:UInt8):Nat:=c.toNat
noncomputable def ID (a:List UInt8):List UInt8->Bool:=List.rec (motive:=fun _=>List UInt8->Bool) (fun b=>List.rec (motive:=fun _=>Bool) true (fun _ _ _=>false) b)
 (fun x _ ih b=>List.rec (motive:=fun _=>Bool) false (fun y q _=>aT (Nat.beq (Cf x) (Cf y)) (ih q) false) b) a
noncomputable def Ow (a:List UInt8):List UInt8->Bool:=List.rec (motive:=fun _=>List UInt8->Bool) (fun b=>List.rec (motive:=fun _=>Bool) false (fun _ _ _=>true) b)
 (fun x _ ih b=>List.rec (motive:=fun _=>Bool) false (fun y q _=>aT (Nat.beq (Cf x) (Cf y)) (ih q) (Nat.ble (Nat.add (Cf x) 1) (Cf y))) b) a
noncomputable def ES (v:V):Option V:=V.rec (motive_1:=fun _=>Option V) (motive_2:=fun _=>Option V) (motive_3:=fun _=>Option V) (fun w=>some (.b w)) (fun w x=>some (.i w x)) (fun w=>some (.s w)) (some .fM) (fun w x=>pF w (fun n=>some (.p (.g n) x)) fun _=>none) (fun w x y z=>pF w (fun n=>some (.pa (.g n) x y z)) fun _=>none) (fun _ _ _=>none) (some .aB) (fun w x y _=>(fun w x y=>bM w (some (.sl none x y)) fun a=>pF a (fun n=>some (.sl (some (.g n)) x y)) fun _=>some (.sl none x y)) w x y) (fun w x y z=>pF w (fun n=>some (.ms (.g n) x y z)) fun _=>none) (some .eG) (fun w=>pF w (fun n=>some (.m (.g n))) fun _=>none) (fun _ _ _ _ _=>none) (some .fN) (fun _ _=>none) (fun _ _=>none) none none (fun _ _ _ _=>none) none (fun _ _ _ _=>none) v
noncomputable def uI (v:V):Option V:=V.rec (motive_1:=fun _=>Option V) (motive_2:=fun _=>Option V) (motive_3:=fun _=>Option V) (fun w=>some (.b w)) (fun w x=>some (.i w x)) (fun w=>some (.s w)) (some .fM) (fun w x=>pF w (fun n=>some (.p (.g n) x)) fun _=>none) (fun w x y z=>pF w (fun n=>some (.pa (.g n) x y z)) fun _=>none) (fun _ _ _=>none) (some .aB) (fun w x y _=>(fun w x y=>bM w (some (.sl none x y)) fun a=>pF a (fun n=>some (.sl (some (.g n)) x y)) fun _=>some (.sl none x y)) w x y) (fun w x y z=>pF w (fun n=>some (.ms (.g n) x y z)) fun _=>none) (some .eG) (fun w=>pF w (fun n=>some (.m (.g n))) fun _=>none) (fun w x y _ _=>(fun w x y=>bM (lX ES x) none fun a=>bM (lX ES y) none fun c=>some (.fn w a c)) w x y) (some .fN) (fun w _=>(fun w=>bM (lX ES w) none fun x=>some (.agg x)) w) (fun _ _=>none) none none (fun _ _ _ _=>none) none (fun _ _ _ _=>none) v
noncomputable def Gj (v:V):Option V:=V.rec (motive_1:=fun _=>Option V) (motive_2:=fun _=>Option V) (motive_3:=fun _=>Option V) (fun w=>some (.b w)) (fun w x=>some (.i w x)) (fun w=>some (.s w)) none (fun _ _=>none) (fun _ _ _ _=>none) (fun _ _ _=>none) (some .aB) (fun w x y _=>(fun _ x y=>some (.sl none x y)) w x y) (fun _ _ _ _=>none) none (fun _=>none) (fun _ _ _ _ _=>none) none (fun _ _=>none) (fun _ _=>none) none none (fun _ _ _ _=>none) none (fun _ _ _ _=>none) v
noncomputable def j2 (l:List V):Option (List V):=lX uI l
noncomputable def Ay (l:List (List V)):Option (List (List V)):=lX (lX Gj) l
noncomputable def O6 (g:Bool) (l:List V):Option (List V):=aT g (j2 l) (some l)
noncomputable def Dx (g:Bool) (l:List (List V)):Option (List (List V)):=aT g (lX j2 l) (some l)
noncomputable def Cg (k:Key):Bool:=pF k (fun _=>true) fun _=>false
open Go
abbrev Rf:=Nat->List V->Mem->Cz
abbrev Kz:=V->SM->Rz
abbrev Ot:=iE (Rf->Fc->SM->Kz->Rz)
abbrev Rg:=iE (Rf->Fc->SM->Rz)
noncomputable def bG (c:Bool) (k:Rz):Rz:=aT c k .none
noncomputable def asks {δ:Type} (o:Option δ) (k:δ->Rz):Rz:=bM o .none k
noncomputable def dB (x:bH):iE (Fc->V):=bH.rec (motive:=fun _=>iE (Fc->V)) (fun n=>jE n) (fun v=>⟨fun _=>v⟩) x
noncomputable def K6 (l:List bH):iE (Fc->List V):=List.rec (motive:=fun _=>iE (Fc->List V)) ⟨fun _=>[]⟩ (fun x _ ih=>⟨fun fr=>(dB x).run fr::ih.run fr⟩) l
noncomputable def pI (x:Option bH):iE (Fc->Option V):=bM x ⟨fun _=>none⟩ fun x=>⟨fun fr=>some ((dB x).run fr)⟩
noncomputable def VA (x:List UInt8):List (List V):=List.rec (motive:=fun _=>List (List V)) [] (fun c _ ih=>[.i .u8 (.ofNat (Cf c))]::ih) x
noncomputable def ET {δ:Type} (l m:List δ) (k:List δ->Rz):Rz:=List.rec (motive:=fun _=>(List δ->Rz)->Rz) (fun k=>k m) (fun a _ ih k=>ih fun r=>k (a::r)) l k
noncomputable def yS (st:SM) (key:Key) (sz:Nat) (k:List (List V)->Rz):Rz:=asks (st.look key) fun o=>Gi (fun _=>.none) (fun z es=>bG (Nat.beq z sz) (k es)) .none (fun _ _=>.none) o
noncomputable def csC (st:SM) (key:Key) (k:List V->Rz):Rz:=asks (st.look key) fun o=>Gi k (fun _ _=>.none) .none (fun _ _=>.none) o
noncomputable def aeY (st:SM) (key:Key) (k:Rz):Rz:=asks (st.look key) fun o=>Gi (fun _=>.none) (fun _ _=>.none) k (fun _ _=>.none) o
noncomputable def VB (a b:Option IntKind):Bool:=bM a (bM b true fun _=>false) fun a=>bM b false fun b=>qZ a b
noncomputable def mpC (st:SM) (key:Key) (kd:Option IntKind) (k:List (V×V)->Rz):Rz:=asks (st.look key) fun o=>Gi (fun _=>.none) (fun _ _=>.none) .none (fun AX es=>bG (VB AX kd) (k es)) o
noncomputable def yT (sz:Nat) (st:SM) (v:V) (k:List (List V)->Rz):Rz:=
 vL .none (fun x=>bG (Nat.beq sz 1) (k (VA x))) (k []) (fun _ z es=>bG (Nat.beq z sz) (k es)) (fun key z s n=>bG (Nat.beq z sz) (yS st key sz fun es=>bG (Nat.ble (Nat.add s n) (cK es)) (k (pH (lW es s) n)))) v
noncomputable def Dy (m:jQ) (sz:Nat) (es:List (List V)) (st:SM) (k:Kz):Rz:=
 jQ.rec (motive:=fun _=>Rz) (fun g=>asks (Ay es) fun ds=>st.push g .spare fun key st=>k (.sl (some key) sz ds) st)
  (fun g=>asks (Dx g es) fun ds=>st.push g (.arr sz ds) fun key st=>k (.ms key sz 0 (cK ds)) st)
  (asks (Ay es) fun ds=>k (.sl none sz ds) st) m
noncomputable def Dz (n bytes:Nat):Bool:=Nat.ble (Nat.mul n bytes) 140737488355328
noncomputable def IE (m:jQ) (sz bytes:Nat) (st:SM) (s:V) (new:List (List V)) (k:Kz):Rz:=
 List.rec (motive:=fun _=>Rz) (vL .none (fun _=>.none) (k .aB st) (fun t z es=>bG (Nat.beq z sz) (k (.sl t sz es) st)) (fun a z o l=>bG (Nat.beq z sz) (k (.ms a sz o l) st)) s)
  (fun _ _ _=>vL .none (fun _=>.none) (bG (Dz (cK new) bytes) (Dy m sz new st k))
    (fun t z es=>bG (Nat.beq z sz)<|bG (Dz (Nat.add (cK es) (cK new)) bytes)<|asks (Ay new) fun ds=>asks t fun key=>aeY st key<|st.drop key fun st=>st.push (Cg key) .spare fun key st=>ET es ds fun es=>k (.sl (some key) sz es) st)
    (fun key z off len=>bG (Nat.beq z sz)<|bG (Dz (Nat.add len (cK new)) bytes)<|asks (Dx (Cg key) new) fun ds=>yS st key sz fun es=>bG (Nat.ble (Nat.add off len) (cK es))<|
      aT (Nat.ble (Nat.add (Nat.add off len) (cK ds)) (cK es))
       (ET (wX (pH es (Nat.add off len)) ds) (lW es (Nat.add (Nat.add off len) (cK ds))) fun es=>st.set key (.arr sz es) fun st=>k (.ms key sz off (Nat.add len (cK ds))) st)
       (st.drop key fun st=>ET (lW (pH es (Nat.add off len)) off) ds fun es=>st.push (Cg key) (.arr sz es) fun key st=>k (.ms key sz 0 (Nat.add len (cK ds))) st)) s) new
noncomputable def Gk (cs:List V) (off n:Nat):Bool:=aT (Nat.beq n 0) (Nat.ble off (cK cs)) (bM (iS cs (Nat.sub (Nat.add off n) 1)) false fun _=>true)
noncomputable def Az (x:Int) (k:Nat->Rz):Rz:=iC k (fun _=>.none) x
noncomputable def yU (x y:V):Bool:=vIS false (fun k a=>fU false (fun k' b=>aT (qZ k k') (Rw a b) false) y) (fun a=>mB false (fun b=>ID a b) y) x
noncomputable def yV (kd:Option IntKind) (v:V):Bool:=bM kd (mB false (fun _=>true) v) fun k=>fU false (fun k' _=>qZ k k') v
noncomputable def IF (x:V) (l:List (V×V)):Option V:=List.rec (motive:=fun _=>Option V) none (fun q _ ih=>aT (yU x q.1) (some q.2) ih) l
noncomputable def Qd (x v:V) (l:List (V×V)):List (V×V):=List.rec (motive:=fun _=>List (V×V)) [(x,v)] (fun q r ih=>aT (yU x q.1) ((x,v)::r) (q::ih)) l
noncomputable def Qe (x:V) (l:List (V×V)):List (V×V):=List.rec (motive:=fun _=>List (V×V)) [] (fun q r ih=>aT (yU x q.1) r (q::ih)) l
noncomputable def iK (kd:IntKind) (n:Int) (k:V->Rz):Rz:=iC (fun a=>uH a fun a=>k (.i kd (.ofNat a))) (fun a=>k (.i kd (.negSucc a))) n
noncomputable def ajG (op:BinOp):iE (IntKind->IntKind->Int->Int->(V->Rz)->Rz):=
 BinOp.rec (motive:=fun _=>iE (IntKind->IntKind->Int->Int->(V->Rz)->Rz))
  ⟨fun k k' a c r=>bG (qZ k k') (iK k (wr k (ajE a c)) r)⟩ ⟨fun k k' a c r=>bG (qZ k k') (iK k (wr k (aoU a c)) r)⟩ ⟨fun k k' a c r=>bG (qZ k k') (iK k (wr k (aoV a c)) r)⟩
  ⟨fun k k' a c r=>bG (qZ k k') (bG (jF (Rw c 0)) (iK k (k.wrap (a.tdiv c)) r))⟩ ⟨fun k k' a c r=>bG (qZ k k') (bG (jF (Rw c 0)) (iK k (a.tmod c) r))⟩
  ⟨fun k k' a c r=>bG (qZ k k') (iK k (k.wrap ((BitVec.ofInt k.bits a&&&BitVec.ofInt k.bits c).toNat)) r)⟩ ⟨fun k k' a c r=>bG (qZ k k') (iK k (k.wrap ((BitVec.ofInt k.bits a|||BitVec.ofInt k.bits c).toNat)) r)⟩ ⟨fun k k' a c r=>bG (qZ k k') (iK k (k.wrap ((BitVec.ofInt k.bits a ^^^ BitVec.ofInt k.bits c).toNat)) r)⟩
  ⟨fun k _ a c r=>bG (jF (Ov c 0)) (iK k (k.wrap (a*2 ^ (min c.toNat k.bits))) r)⟩ ⟨fun k _ a c r=>bG (jF (Ov c 0)) (iK k (a.fdiv (2 ^ (min c.toNat k.bits))) r)⟩
  ⟨fun k k' a c r=>bG (qZ k k') (iK k (k.wrap ((BitVec.ofInt k.bits a&&&~~~ (BitVec.ofInt k.bits c)).toNat)) r)⟩
  ⟨fun k k' a c r=>bG (qZ k k') (r (.b (Rw a c)))⟩ ⟨fun k k' a c r=>bG (qZ k k') (r (.b (jF (Rw a c))))⟩
  ⟨fun k k' a c r=>bG (qZ k k') (r (.b (Ov a c)))⟩ ⟨fun k k' a c r=>bG (qZ k k') (r (.b (jF (Ov c a))))⟩ ⟨fun k k' a c r=>bG (qZ k k') (r (.b (Ov c a)))⟩ ⟨fun k k' a c r=>bG (qZ k k') (r (.b (jF (Ov a c))))⟩ op
noncomputable def ajH (op:BinOp):iE (List UInt8->List UInt8->(V->Rz)->Rz):=
 BinOp.rec (motive:=fun _=>iE (List UInt8->List UInt8->(V->Rz)->Rz))
  ⟨fun a c r=>bG (Nat.ble (Nat.add (cK a) (cK c)) 9223372036854775807) (ET a c fun x=>r (.s x))⟩ ⟨fun _ _ _=>.none⟩ ⟨fun _ _ _=>.none⟩ ⟨fun _ _ _=>.none⟩ ⟨fun _ _ _=>.none⟩ ⟨fun _ _ _=>.none⟩ ⟨fun _ _ _=>.none⟩ ⟨fun _ _ _=>.none⟩ ⟨fun _ _ _=>.none⟩ ⟨fun _ _ _=>.none⟩ ⟨fun _ _ _=>.none⟩
  ⟨fun a c r=>r (.b (ID a c))⟩ ⟨fun a c r=>r (.b (jF (ID a c)))⟩ ⟨fun a c r=>r (.b (Ow a c))⟩ ⟨fun a c r=>r (.b (aT (Ow a c) true (ID a c)))⟩ ⟨fun a c r=>r (.b (jF (aT (Ow a c) true (ID a c))))⟩ ⟨fun a c r=>r (.b (jF (Ow a c)))⟩ op
noncomputable def VC (row:Bool) (v:V) (k:List V->Rz):Rz:=aT row (vA .none k v) (ayB .none k v)
noncomputable def aeZ (l:List bH):iE (Fc->(List V->Rz)->Rz):=List.rec (motive:=fun _=>iE (Fc->(List V->Rz)->Rz)) ⟨fun _ k=>k []⟩ (fun x _ ih=>⟨fun fr k=>vK (fun v=>ih.run fr fun r=>k (v::r)) ((dB x).run fr)⟩) l
noncomputable def IG (k:CK) (x y:V):Option Bool:=CK.rec (motive:=fun _=>Option Bool) (vB none (fun a=>vB none (fun b=>some (aT a b (jF b))) y) x) (fU none (fun k a=>fU none (fun k' b=>aT (qZ k k') (some (Rw a b)) none) y) x) (mB none (fun a=>mB none (fun b=>some (ID a b)) y) x) k
noncomputable def AA (ks:List CK):List V->List V->Option Bool:=List.rec (motive:=fun _=>List V->List V->Option Bool) (fun x y=>List.rec (motive:=fun _=>Option Bool) (List.rec (motive:=fun _=>Option Bool) (some true) (fun _ _ _=>none) y) (fun _ _ _=>none) x)
 (fun k _ ih x y=>List.rec (motive:=fun _=>Option Bool) none (fun a r _=>List.rec (motive:=fun _=>Option Bool) none (fun b q _=>bM (IG k a b) none fun e=>bM (ih r q) none fun f=>some (aT e f false)) y) x) ks
noncomputable def ae0 (neg:Bool) (x y:V) (k:V->Rz):Rz:=
 vN4 .none (vNp .none (k (.b (jF neg))) (fun _ _=>k (.b neg)) (fun _ _ _ _=>k (.b neg)) x)
  (vL .none (fun _=>.none) (k (.b (jF neg))) (fun t _ es=>bM t (List.rec (motive:=fun _=>Rz) .none (fun _ _ _=>k (.b neg)) es) fun _=>k (.b neg)) (fun _ _ _ _=>k (.b neg)) x)
  (vM .none (k (.b (jF neg))) (fun _=>k (.b neg)) x) (vNf .none (k (.b (jF neg))) (fun _ _ _=>k (.b neg)) x) y
noncomputable def O7 (ps:List (Nat×Nat×bH)) (fr:Fc) (cs:List V) (k:List V->Rz):Rz:=List.rec (motive:=fun _=>List V->Rz) k (fun q _ ih cs=>vC .none (fun vs=>bG (Nat.beq (cK vs) q.2.1) (bG (Nat.ble (Nat.add q.1 q.2.1) (cK cs)) (spell (sS cs q.1 vs) ih))) ((dB q.2.2).run fr)) ps cs
noncomputable def O8 (ps:List (Nat×bH)) (sz:Nat) (fr:Fc) (es:List (List V)) (k:List (List V)->Rz):Rz:=List.rec (motive:=fun _=>List (List V)->Rz) k (fun q _ ih es=>vC .none (fun vs=>bG (Nat.beq (cK vs) sz) (bG (Nat.ble (Nat.succ q.1) (cK es)) (spell (Rv es q.1 vs) ih))) ((dB q.2).run fr)) ps es
noncomputable def Ch (o:Option V) (n:Nat) (k:Nat->Rz):Rz:=bM o (k n) fun v=>fU .none (fun _ j=>Az j k) v
noncomputable def mm2 (max:Bool) (l:List V):V->Option V:=List.rec (motive:=fun _=>V->Option V) (fun v=>some v) (fun w _ ih v=>fU none (fun k x=>fU none (fun _ y=>ih (.i k (aT max (aT (Ov x y) y x) (aT (Ov y x) y x)))) w) v) l
noncomputable def Bc (l:List (List V)):Option (List UInt8):=List.rec (motive:=fun _=>Option (List UInt8)) (some []) (fun e _ ih=>List.rec (motive:=fun _=>Option (List UInt8)) none (fun v r _=>List.rec (motive:=fun _=>Option (List UInt8)) (fU none (fun k n=>aT (qZ k .u8) (bM ih none fun y=>some (UInt8.ofNat n.toNat::y)) none) v) (fun _ _ _=>none) r) e) l
noncomputable def K7 (rf:Rf) (f:Nat) (vs:List V) (st:SM) (k:Kz):Rz:=st.cas fun gn g ln l=>Cz.rec (motive:=fun _=>Rz) .none (fun v m=>Mem.rec (motive:=fun _=>Rz) (fun gn g=>k v (.mk gn g ln l)) m) (rf f vs (.mk gn g))
noncomputable def mO (o:wT):Ot:=
 wT.rec (motive:=fun _=>Ot)
  (fun x=>⟨fun _ fr st k=>vK (fun v=>k v st) ((dB x).run fr)⟩)
  (fun x=>⟨fun _ fr st k=>vK (fun v=>k v st) ((dB x).run fr)⟩)
  (fun c a d=>⟨fun _ fr st k=>vB .none (fun b=>aT b (vK (fun v=>k v st) ((dB a).run fr)) (vK (fun v=>k v st) ((dB d).run fr))) ((dB c).run fr)⟩)
  (fun g z=>⟨fun _ _ st k=>st.push g (.cs z) fun key st=>k (.p key 0) st⟩)
  (fun g x=>⟨fun _ fr st k=>vC .none (fun cs=>asks (O6 g cs) fun c=>st.push g (.cs c) fun key st=>k (.p key 0) st) ((dB x).run fr)⟩)
  (fun z ps=>⟨fun _ fr st k=>O7 ps fr z fun cs=>k (.agg cs) st⟩)
  (fun m sz len z ps=>⟨fun _ fr st k=>O8 ps sz fr (O5 len z) fun es=>Dy m sz es st k⟩)
  (fun n a=>⟨fun _ fr st k=>vP .none (fun key off=>csC st key fun c=>asks (Qc c off n) fun v=>k v st) (fun key sz ix off=>yS st key sz fun es=>asks (iS es ix) fun e=>asks (Qc e off n) fun v=>k v st) (fun cs off=>asks (Qc cs off n) fun v=>k v st) ((dB a).run fr)⟩)
  (fun n a x=>⟨fun _ fr st k=>vC .none (fun cs=>bG (Nat.beq (cK cs) n) (vP .none (fun key off=>asks (O6 (Cg key) cs) fun vs=>csC st key fun c=>bG (Gk c off n) (spell (sS c off vs) fun c=>st.set key (.cs c) fun st=>k (.bC []) st))
    (fun key sz ix off=>asks (O6 (Cg key) cs) fun vs=>yS st key sz fun es=>asks (iS es ix) fun e=>bG (Gk e off n) (spell (sS e off vs) fun e=>spell (Rv es ix e) fun es=>st.set key (.arr sz es) fun st=>k (.bC []) st)) (fun _ _=>.none) ((dB a).run fr))) ((dB x).run fr)⟩)
  (fun x=>⟨fun _ fr st k=>vQ .none (fun a o=>k (.p a o) st) (fun a z i o=>k (.pa a z i o) st) (fun c o=>k (.pc c o) st) (fun f a c=>k (.fn f a c) st) ((dB x).run fr)⟩)
  (fun op x y=>⟨fun _ fr st k=>vIS .none (fun kd a=>fU .none (fun AX c=>(ajG op).run kd AX a c fun v=>k v st) ((dB y).run fr)) (fun a=>mB .none (fun c=>(ajH op).run a c fun v=>k v st) ((dB y).run fr)) ((dB x).run fr)⟩)
  (fun row ks neg x y=>⟨fun _ fr st k=>VC row ((dB x).run fr) fun cs=>VC row ((dB y).run fr) fun ds=>asks (AA ks cs ds) fun r=>k (.b (aT neg (jF r) r)) st⟩)
  (fun neg x y=>⟨fun _ fr st k=>ae0 neg ((dB x).run fr) ((dB y).run fr) fun v=>k v st⟩)
  (fun op x=>UnOp.rec (motive:=fun _=>Ot) ⟨fun _ fr st k=>fU .none (fun kd n=>iK kd (kd.wrap (0 - n)) fun v=>k v st) ((dB x).run fr)⟩ ⟨fun _ _ _ _=>.none⟩ ⟨fun _ fr st k=>vB .none (fun b=>k (.b (jF b)) st) ((dB x).run fr)⟩ ⟨fun _ _ _ _=>.none⟩ op)
  (fun kd x=>⟨fun _ fr st k=>fU .none (fun _ n=>iK kd (wr kd n) fun v=>k v st) ((dB x).run fr)⟩)
  (fun x=>⟨fun _ fr st k=>mB .none (fun y=>k (.s y) st) ((dB x).run fr)⟩)
  (fun m x=>⟨fun _ fr st k=>mB .none (fun y=>Dy m 1 (VA y) st k) ((dB x).run fr)⟩)
  (fun x=>⟨fun _ fr st k=>vL .none (fun _=>.none) .none (fun t sz es=>asks t fun key=>aeY st key (k (.sl (some key) sz es) st)) (fun key sz off len=>asks (st.look key) fun o=>Gi (fun _=>.none) (fun z _=>bG (Nat.beq z 1) (k (.ms key sz off len) st)) .none (fun _ _=>.none) o) ((dB x).run fr)⟩)
  (fun x=>⟨fun _ fr st k=>yT 1 st ((dB x).run fr) fun es=>asks (Bc es) fun y=>k (.s y) st⟩)
  (fun f cap=>⟨fun _ fr st k=>(aeZ cap).run fr fun c=>k (.fn f [] c) st⟩)
  (fun g kd=>⟨fun _ _ st k=>st.push g (.mp kd []) fun key st=>k (.m key) st⟩)
  (fun m sz bytes z l c=>⟨fun _ fr st k=>fU .none (fun _ a=>fU .none (fun _ d=>Az a fun n=>Az d fun n'=>bG (Nat.beq n n') (bG (Dz n bytes) (Dy m sz (O5 n z) st k))) ((dB c).run fr)) ((dB l).run fr)⟩)
  (fun x lo hi=>⟨fun _ fr st k=>mB .none (fun y=>Ch ((pI hi).run fr) (cK y) fun h=>Ch ((pI lo).run fr) 0 fun l=>bG (Nat.ble l h) (bG (Nat.ble h (cK y)) (k (.s (lW (pH y h) l)) st))) ((dB x).run fr)⟩)
  (fun sz x lo hi mx=>bM mx ⟨fun _ fr st k=>vL .none (fun _=>.none) (Ch ((pI hi).run fr) 0 fun h=>Ch ((pI lo).run fr) 0 fun l=>bG (Nat.beq l 0) (bG (Nat.beq h 0) (k .aB st)))
    (fun t z es=>bG (Nat.beq z sz) (bM hi (Ch ((pI lo).run fr) 0 fun l=>bG (Nat.ble l (cK es)) (k (.sl t sz (lW es l)) st)) fun _=>Ch ((pI hi).run fr) 0 fun h=>Ch ((pI lo).run fr) 0 fun l=>bG (Nat.ble l h) (bG (Nat.ble h (cK es)) (k (.sl none sz (lW (pH es h) l)) st))))
    (fun key z off len=>bG (Nat.beq z sz) (Ch ((pI hi).run fr) len fun h=>Ch ((pI lo).run fr) 0 fun l=>yS st key sz fun es=>bG (Nat.ble l h) (bG (Nat.ble (Nat.add off h) (cK es)) (k (.ms key sz (Nat.add off l) (Nat.sub h l)) st)))) ((dB x).run fr)⟩ fun mo=>⟨fun _ fr st k=>vL .none (fun _=>.none) .none (fun _ _ _=>.none) (fun key z off len=>bG (Nat.beq z sz) (Ch ((pI hi).run fr) len fun h=>Ch ((pI lo).run fr) 0 fun l=>yS st key sz fun es=>Ch (some ((dB mo).run fr)) 0 fun mx=>bG (Nat.ble l h) (bG (Nat.ble h mx) (bG (Nat.ble (Nat.add off mx) (cK es)) (k .bL st))))) ((dB x).run fr)⟩)
  (fun off x=>⟨fun _ fr st k=>vP .none (fun a o=>k (.p a (Nat.add o off)) st) (fun a z i o=>k (.pa a z i (Nat.add o off)) st) (fun c o=>k (.pc c (Nat.add o off)) st) ((dB x).run fr)⟩)
  (fun off n x=>⟨fun _ fr st k=>vA .none (fun cs=>asks (Qc cs off n) fun v=>k v st) ((dB x).run fr)⟩)
  (fun sz x i=>⟨fun _ fr st k=>fU .none (fun _ n=>Az n fun n=>vL .none (fun _=>.none) .none (fun _ z es=>bG (Nat.beq z sz) (asks (iS es n) fun e=>k (.pc e 0) st)) (fun a z off len=>bG (Nat.beq z sz) (bG (Nat.ble (Nat.succ n) len) (k (.pa a sz (Nat.add off n) 0) st))) ((dB x).run fr)) ((dB i).run fr)⟩)
  (fun len sz x i=>⟨fun _ fr st k=>fU .none (fun _ n=>Az n fun n=>bG (Nat.ble (Nat.succ n) len) (vP .none (fun a o=>k (.p a (Nat.add o (Nat.mul n sz))) st) (fun a z j o=>k (.pa a z j (Nat.add o (Nat.mul n sz))) st) (fun c o=>k (.pc c (Nat.add o (Nat.mul n sz))) st) ((dB x).run fr))) ((dB i).run fr)⟩)
  (fun x i=>⟨fun _ fr st k=>mB .none (fun y=>fU .none (fun _ n=>Az n fun n=>asks (iS y n) fun c=>k (.i .u8 (.ofNat (Cf c))) st) ((dB i).run fr)) ((dB x).run fr)⟩)
  (fun len sz n x i=>⟨fun _ fr st k=>vA .none (fun cs=>fU .none (fun _ j=>Az j fun j=>bG (Nat.ble (Nat.succ j) len) (asks (Qc cs (Nat.mul j sz) n) fun v=>k v st)) ((dB i).run fr)) ((dB x).run fr)⟩)
  (fun kd z m key ok=>⟨fun _ fr st k=>bG (yV kd ((dB key).run fr)) (vM .none (k (aT ok (.bC [z,.b false]) z) st) (fun a=>mpC st a kd fun es=>bM (IF ((dB key).run fr) es) (k (aT ok (.bC [z,.b false]) z) st) fun v=>aT ok (k (.bC [v,.b true]) st) (k v st)) ((dB m).run fr))⟩)
  (fun kd m key v=>⟨fun _ fr st k=>bG (yV kd ((dB key).run fr)) (vM .none .none (fun a=>mpC st a kd fun es=>vK (fun v=>asks (aT (Cg a) (uI v) (some v)) fun u=>spell (Qd ((dB key).run fr) u es) fun es=>st.set a (.mp kd es) fun st=>k (.bC []) st) ((dB v).run fr)) ((dB m).run fr))⟩)
  (fun x i=>⟨fun _ fr st k=>vT .none (fun vs=>asks (iS vs i) fun v=>k v st) ((dB x).run fr)⟩)
  (fun f args=>⟨fun rf fr st k=>asks (j2 ((K6 args).run fr)) fun vs=>K7 rf f vs st k⟩)
  (fun f args=>⟨fun rf fr st k=>vF .none (fun g first cap=>asks (j2 (wX first (wX ((K6 args).run fr) cap))) fun vs=>K7 rf g vs st k) ((dB f).run fr)⟩)
  (fun x=>⟨fun _ fr st k=>mB .none (fun y=>k (.i .i64 (.ofNat (cK y))) st) ((dB x).run fr)⟩)
  (fun x=>⟨fun _ fr st k=>vL .none (fun _=>.none) (k (.i .i64 0) st) (fun _ _ es=>k (.i .i64 (.ofNat (cK es))) st) (fun _ _ _ n=>k (.i .i64 (.ofNat n)) st) ((dB x).run fr)⟩)
  (fun n=>⟨fun _ _ st k=>k (.i .i64 (.ofNat n)) st⟩)
  (fun x=>⟨fun _ fr st k=>vM .none (k (.i .i64 0) st) (fun a=>asks (st.look a) fun o=>Gi (fun _=>.none) (fun _ _=>.none) .none (fun _ es=>k (.i .i64 (.ofNat (cK es))) st) o) ((dB x).run fr)⟩)
  (fun max xs=>⟨fun _ fr st k=>List.rec (motive:=fun _=>Rz) .none (fun v r _=>asks (mm2 max r v) fun v=>k v st) ((K6 xs).run fr)⟩)
  (fun m sz bytes s x=>⟨fun _ fr st k=>yT sz st ((dB x).run fr) fun new=>IE m sz bytes st ((dB s).run fr) new k⟩)
  (fun sz d x=>⟨fun _ fr st k=>yT sz st ((dB x).run fr) fun src=>vL .none (fun _=>.none) .none (fun _ _ _=>.none) (fun key z off len=>bG (Nat.beq z sz) (asks (Dx (Cg key) (pH src len)) fun ds=>yS st key sz fun es=>bG (Nat.ble (Nat.add off len) (cK es)) (ET (wX (pH es off) ds) (lW es (Nat.add off (cK ds))) fun es=>st.set key (.arr sz es) fun st=>k (.i .i64 (.ofNat (cK ds))) st))) ((dB d).run fr)⟩)
  (fun kd m key=>⟨fun _ fr st k=>bG (yV kd ((dB key).run fr)) (vM .none (k (.bC []) st) (fun a=>mpC st a kd fun es=>spell (Qe ((dB key).run fr) es) fun es=>st.set a (.mp kd es) fun st=>k (.bC []) st) ((dB m).run fr))⟩)
  (fun sz z x=>⟨fun _ fr st k=>vL .none (fun _=>.none) (k (.bC []) st) (fun _ _ _=>.none) (fun key zz off len=>bG (Nat.beq zz sz) (yS st key sz fun es=>bG (Nat.ble (Nat.add off len) (cK es)) (ET (wX (pH es off) (O5 len z)) (lW es (Nat.add off len)) fun es=>st.set key (.arr sz es) fun st=>k (.bC []) st))) ((dB x).run fr)⟩)
  ⟨fun _ _ _ _=>.none⟩ o
noncomputable def mC (dst:Option Nat) (kill:List Nat):iE (V->Fc->(Fc->Rz)->Rz):=
 List.rec (motive:=fun _=>iE (V->Fc->(Fc->Rz)->Rz)) (bM dst ⟨fun _ fr k=>k fr⟩ fun d=>⟨fun v fr k=>(O4 d Rz.none).run fr v k⟩) (fun _ _ _=>⟨fun _ _ _=>.none⟩) kill
noncomputable def DA (g:Option (Nat×Bool)):iE (Fc->Rz->Rz->Rz):=bM g ⟨fun _ y _=>y⟩ fun q=>⟨fun fr y n=>vG .none (fun x=>aT (aT q.2 x (jF x)) y n) (fun _=>n) ((jE q.1).run fr)⟩
noncomputable def uJ (ops:List cG):Rg:=List.rec (motive:=fun _=>Rg) ⟨fun _ fr st=>.p8 fr st⟩
 (fun o _ ih=>bM o.guard ⟨fun rf fr st=>(mO o.op).run rf fr st fun v st=>(mC o.dst o.kill).run v fr fun fr=>ih.run rf fr st⟩
   fun g=>⟨fun rf fr st=>(DA (some g)).run fr ((mO o.op).run rf fr st fun v st=>(mC o.dst o.kill).run v fr fun fr=>ih.run rf fr st) ((mC o.dst o.kill).run (.bC []) fr fun fr=>ih.run rf fr st)⟩) ops
noncomputable def Bd (a b:Key):Bool:=pF a (fun n=>pF b (fun m=>Nat.beq n m) fun _=>false) fun n=>pF b (fun _=>false) fun m=>Nat.beq n m
noncomputable def vEq (v u:V):Bool:=vB (vIS (vP (V.beq v u) (fun a o=>vP false (fun b j=>aT (Bd a b) (Nat.beq o j) false) (fun _ _ _ _=>false) (fun _ _=>false) u) (fun _ _ _ _=>V.beq v u) (fun _ _=>V.beq v u) v)
 (fun k n=>fU false (fun j m=>aT (qZ k j) (Rw n m) false) u) (fun a=>mB false (fun b=>ID a b) u) v) (fun a=>vB false (fun b=>aT a b (jF b)) u) v
noncomputable def II (re:List Nat) (done:List aO):iE (Rf->Fc->SM->Rz->Rz):=List.rec (motive:=fun _=>iE (Rf->Fc->SM->Rz->Rz)) ⟨fun _ _ _ k=>k⟩
 (fun p _ ih=>aT (Qb p.ix re) ⟨fun rf fr st k=>(DA p.o.guard).run fr ((mO p.o.op).run rf fr st fun v _=>bM p.o.dst (ih.run rf fr st k) fun d=>bG (vEq ((jE d).run fr) v) (ih.run rf fr st k)) (ih.run rf fr st k)⟩ ih) done
noncomputable def VD (kill:List Nat) (ds:List aO):List aO->Rg:=List.rec (motive:=fun _=>List aO->Rg) (fun _=>List.rec (motive:=fun _=>Rg) ⟨fun _ fr st=>.p8 fr st⟩ (fun _ _ _=>⟨fun _ _ _=>.none⟩) kill)
 (fun d _ ih done=>⟨fun rf fr st=>(DA d.o.guard).run fr ((mO d.o.op).run rf fr st fun v st=>(mC d.o.dst []).run v fr fun fr=>(II d.re done).run rf fr st ((ih (d::done)).run rf fr st)) ((mC d.o.dst []).run (.bC []) fr fun fr=>(ih (d::done)).run rf fr st)⟩) ds
noncomputable def jB (r:Rz) (k:Fc->SM->Rz):Rz:=Rz.rec (motive:=fun _=>Rz) .none k .exit .ret r
def K8:Nat:=1000000
@[irreducible] noncomputable def BM (gc:iE (Fc->SM->(SM->Rz)->Rz)) (b:Rg) (rf:Rf) (n:Nat):Fc->SM->Rz:=Nat.rec (motive:=fun _=>Fc->SM->Rz) (fun _ _=>.none) (fun _ ih fr st=>gc.run fr st fun st=>jB (b.run rf fr st) ih) n
noncomputable def bX (gc:iE (Fc->SM->(SM->Rz)->Rz)) (c:AC):Rg:=AC.rec (motive:=fun _=>Rg)
 ⟨fun _ fr st=>.p8 fr st⟩ (fun ops=>uJ ops) (fun ds kill=>VD kill ds [])
 (fun _ _ a b=>⟨fun rf fr st=>jB (a.run rf fr st) fun fr st=>b.run rf fr st⟩)
 (fun c _ _ a b=>⟨fun rf fr st=>vB .none (fun x=>aT x (a.run rf fr st) (b.run rf fr st)) ((dB c).run fr)⟩)
 (fun id _ b=>⟨fun rf fr st=>Rz.rec (motive:=fun _=>Rz) .none .p8 (fun ER fr st=>aT (Nat.beq ER id) (.p8 fr st) (.exit ER fr st)) .ret (b.run rf fr st)⟩)
 (fun _ b=>⟨fun rf fr st=>BM gc b rf K8 fr st⟩)
 (fun id=>⟨fun _ fr st=>.exit id fr st⟩) ⟨fun _ fr st=>.ret fr st⟩ ⟨fun _ _ _=>.none⟩ c
noncomputable def eJ:iE (Fc->SM->(SM->Rz)->Rz):=⟨fun _ st k=>k st⟩
noncomputable def pf2 (args:List V):Nat->Fc->(Fc->Rz)->Rz:=List.rec (motive:=fun _=>Nat->Fc->(Fc->Rz)->Rz) (fun _ f k=>k f) (fun v _ ih n f k=>(O4 n Rz.none).run f v fun f=>ih (Nat.add n 1) f k) args
noncomputable def ajI (r:RV):iE (Fc->SM->Option V):=RV.rec (motive:=fun _=>iE (Fc->SM->Option V)) (fun n=>⟨fun fr _=>uI ((jE n).run fr)⟩)
 (fun n sz=>⟨fun fr st=>vP none (fun key off=>bM (st.look key) none fun o=>Gi (fun c=>bM (Qc c off sz) none uI) (fun _ _=>none) none (fun _ _=>none) o) (fun _ _ _ _=>none) (fun _ _=>none) ((jE n).run fr)⟩) r
noncomputable def VE (rs:List RV):iE (Fc->SM->Option (List V)):=List.rec (motive:=fun _=>iE (Fc->SM->Option (List V))) ⟨fun _ _=>some []⟩ (fun r _ ih=>⟨fun fr st=>bM ((ajI r).run fr st) none fun v=>bM (ih.run fr st) none fun vs=>some (v::vs)⟩) rs
noncomputable def ajJ (l:List V):V:=List.rec (motive:=fun _=>V) (.bC []) (fun v r _=>List.rec (motive:=fun _=>V) v (fun _ _ _=>.bC l) r) l
noncomputable def DB (rs:List RV):iE (Fc->SM->Cz):=⟨fun fr st=>bM ((VE rs).run fr st) .none fun vs=>st.cas fun gn g _ _=>.some (ajJ vs) (.mk gn g)⟩
noncomputable def cFn (gc:iE (Fc->SM->(SM->Rz)->Rz)) (F:aF):iE (Rf->List V->Mem->Cz):=
 ⟨fun rf args m=>aT (Nat.beq (cK args) F.nparams) (Mem.rec (motive:=fun _=>Cz) (fun gn g=>Rz.rec (motive:=fun _=>Cz) .none (fun fr st=>(DB F.results).run fr st) (fun _ _ _=>.none) (fun fr st=>(DB F.results).run fr st) (pf2 args 0 Qa fun f=>(bX gc F.body).run rf f (.mk gn g 0 .nil))) m) .none⟩
noncomputable def ent (fns:Nat->Option aF) (VF:Nat->Option (iE (Rf->List V->Mem->Cz))) (gc:Nat->iE (Fc->SM->(SM->Rz)->Rz)) (f:Nat):iE (Rf->List V->Mem->Cz):=
 bM (VF f) (bM (fns f) ⟨fun _ _ _=>.none⟩ fun F=>cFn (gc f) F) fun c=>c
noncomputable def rfN (fns:Nat->Option aF) (VF:Nat->Option (iE (Rf->List V->Mem->Cz))) (gc:Nat->iE (Fc->SM->(SM->Rz)->Rz)) (n:Nat):Rf:=Nat.rec (motive:=fun _=>Rf) (fun _ _ _=>.none) (fun _ ih f args m=>(ent fns VF gc f).run ih args m) n
open Go
theorem eN {n m:Nat}:Nat.beq n m=decide (n=m):=by
 by_cases h:n=m
 · subst h;simp
 · have:Nat.beq n m=false:=by
    cases hb:Nat.beq n m with
    |true=>exact absurd (Nat.eq_of_beq_eq_true hb) h
    |false=>rfl
   rw [this,decide_eq_false h]
theorem cL {n m:Nat}:Nat.ble n m=decide (n<=m):=by
 by_cases h:n<=m
 · rw [decide_eq_true h];exact Nat.ble_eq_true_of_le h
 · rw [decide_eq_false h]
   cases hb:Nat.ble n m with
   |true=>exact absurd (Nat.le_of_ble_eq_true hb) h
   |false=>rfl
section
variable {α:Type}
theorem Be (t e:α):aT true t e=t:=rfl
theorem j3 (t e:α):aT false t e=e:=rfl
theorem b9 (c:Bool) (t e:α):aT c t e=if c=true then t else e:=by cases c<;>rfl
theorem j4 (n:Nat) (k:Nat->α):uH n k=k n:=by cases n<;>rfl
theorem cD (b:Nat) (w x y z:α):fW b w x y z=if b%4=0 then w else if b%4=1 then x else if b%4=2 then y else z:=by
 unfold fW
 rw [show Nat.mod b 4=b%4 from rfl]
 generalize b%4=n
 rcases n with _|_|_|n<;>simp<;>rfl
theorem IJ {n:Nat} (h:n<8):n=0\/n=1\/n=2\/n=3\/n=4\/n=5\/n=6\/n=7:=by omega
theorem VG {i:Nat} (hi:i<8) (f:Fa) (x:V):∃ f':Fa,(∀ (α:Type) (k:Fa->α),(Vx i).run f x k=k f')/\∀ j,j<8->(P9 j).run f'=if j=i then x else (P9 j).run f:=by
 cases f
 rcases IJ hi with h|h|h|h|h|h|h|h<;>subst h
 all_goals refine ⟨_,fun α k=>rfl,fun j hj=>?_⟩;rcases IJ hj with h|h|h|h|h|h|h|h<;>subst h<;>rfl
theorem VH {i:Nat} (hi:i<8) (f:Fb) (x:Fa):∃ f':Fb,(∀ (α:Type) (k:Fb->α),(Vy i).run f x k=k f')/\∀ j,j<8->(Dw j).run f'=if j=i then x else (Dw j).run f:=by
 cases f
 rcases IJ hi with h|h|h|h|h|h|h|h<;>subst h
 all_goals refine ⟨_,fun α k=>rfl,fun j hj=>?_⟩;rcases IJ hj with h|h|h|h|h|h|h|h<;>subst h<;>rfl
theorem VI {i:Nat} (hi:i<8) (f:Fc) (x:Fb):∃ f':Fc,(∀ (α:Type) (k:Fc->α),(Vz i).run f x k=k f')/\∀ j,j<8->(x9 j).run f'=if j=i then x else (x9 j).run f:=by
 cases f
 rcases IJ hi with h|h|h|h|h|h|h|h<;>subst h
 all_goals refine ⟨_,fun α k=>rfl,fun j hj=>?_⟩;rcases IJ hj with h|h|h|h|h|h|h|h<;>subst h<;>rfl
theorem IK {n:Nat} (h:n<512) (f:Fc):(jE n).run f=(P9 (n%8)).run ((Dw (n/8%8)).run ((x9 (n/64)).run f)):=by
 unfold jE
 rw [b9,cL,if_pos (decide_eq_true (by omega))]
 rfl
theorem DC {n:Nat} (h:¬n<512) (f:Fc):(jE n).run f=.bL:=by
 unfold jE
 rw [b9,cL,if_neg (fun e=>h (by have:=of_decide_eq_true e;omega))]
theorem IL {n:Nat} {no:α} {f:Fc} {v:V} {k:Fc->α} {r:α} (h:(O4 n no).run f v k=r) (hr:r≠no):∃ f',k f'=r/\∀ m,(jE m).run f'=if m=n then v else (jE m).run f:=by
 unfold O4 at h
 rw [b9] at h
 split at h
 case isFalse=>exact absurd h.symm hr
 rename_i hn
 have hn:n<512:=by rw [cL] at hn;have:=of_decide_eq_true hn;omega
 have d1:n%8<8:=Nat.mod_lt _ (by omega)
 have d2:n/8%8<8:=Nat.mod_lt _ (by omega)
 have d3:n/64<8:=by omega
 obtain ⟨a',ea,ga⟩:=VG d1 ((Dw (n/8%8)).run ((x9 (n/64)).run f)) v
 obtain ⟨b',eb,gb⟩:=VH d2 ((x9 (n/64)).run f) a'
 obtain ⟨c',ec,gc⟩:=VI d3 f b'
 replace h:(Vx (n%8)).run ((Dw (n/8%8)).run ((x9 (n/64)).run f)) v (fun a=>(Vy (n/8%8)).run ((x9 (n/64)).run f) a fun b=>(Vz (n/64)).run f b k)=r:=h
 rw [ea,eb,ec] at h
 refine ⟨c',h,fun m=>?_⟩
 by_cases hm:m<512
 · rw [IK hm,IK hm,gc _ (by omega)]
   by_cases e3:m/64=n/64
   · rw [if_pos e3,gb _ (Nat.mod_lt _ (by omega))]
     by_cases e2:m/8%8=n/8%8
     · rw [if_pos e2,ga _ (Nat.mod_lt _ (by omega))]
       by_cases e1:m%8=n%8
       · rw [if_pos e1,if_pos (by omega)]
       · rw [if_neg e1,if_neg (by omega),e2,e3]
     · rw [if_neg e2,if_neg (by rintro rfl;exact e2 rfl),e3]
   · rw [if_neg e3,if_neg (by rintro rfl;exact e3 rfl)]
 · rw [DC hm,DC hm,if_neg (by omega)]
theorem Qf (n:Nat):(jE n).run Qa=.bL:=by
 by_cases h:n<512
 · rw [IK h]
   rcases IJ (show n%8<8 by omega) with e|e|e|e|e|e|e|e<;>rcases IJ (show n/8%8<8 by omega) with d|d|d|d|d|d|d|d<;>rcases IJ (show n/64<8 by omega) with c|c|c|c|c|c|c|c<;>rw [e,d,c]<;>rfl
 · exact DC h _
theorem TH.j5 (a b c d:TH) (x k:Nat):(TH.node a b c d).get x k=if x%4=0 then a.get (x/4) k else if x%4=1 then b.get (x/4) k else if x%4=2 then c.get (x/4) k else d.get (x/4) k:=by
 show fW x a.get b.get c.get d.get (x/4) k=_
 rw [cD]
 repeat' split
 all_goals rfl
theorem TH.pJ (j:Nat) (u:Obj) (x k:Nat):(TH.leaf j u).get x k=if j=k then some u else none:=by
 show aT (Nat.beq j k) (some u) none=_
 rw [b9]
 by_cases h:j=k
 · rw [if_pos h,if_pos (by subst h;simp)]
 · rw [if_neg h,if_neg (fun e=>h (Nat.eq_of_beq_eq_true e))]
theorem TH.eW (f b c:Nat) (s t:TH) (k:TH->α):TH.two (f+1) b c s t k=aT (Nat.beq (b%4) (c%4)) (TH.two f (b/4) (c/4) s t fun r=>fW b (k (node r nil nil nil)) (k (node nil r nil nil)) (k (node nil nil r nil)) (k (node nil nil nil r)))
 (fW b (fW c (k s) (k (node s t nil nil)) (k (node s nil t nil)) (k (node s nil nil t))) (fW c (k (node t s nil nil)) (k s) (k (node nil s t nil)) (k (node nil s nil t)))
   (fW c (k (node t nil s nil)) (k (node nil t s nil)) (k s) (k (node nil nil s t))) (fW c (k (node t nil nil s)) (k (node nil t nil s)) (k (node nil nil t s)) (k s))):=rfl
theorem TH.VJ (m n:Nat) (o u:Obj):∀ (f b c:Nat),∃ t:TH,(∀ (α:Type) (k:TH->α),TH.two f b c (.leaf n o) (.leaf m u) k=k t)/\∀ x k w,t.get x k=some w->(k=n/\w=o)\/(k=m/\w=u)
 |0,b,c=>⟨.leaf n o,fun _ _=>rfl,fun x k w h=>by
   rw [TH.pJ] at h
   split at h
   · rename_i e;cases h;exact .inl ⟨e.symm,rfl⟩
   · cases h⟩
 |f+1,b,c=>by
  obtain ⟨t,h1,h2⟩:=TH.VJ m n o u f (b/4) (c/4)
  have l1:∀ {x k w},(TH.leaf n o).get x k=some w->(k=n/\w=o)\/(k=m/\w=u):=fun {x k w} h=>by
   rw [TH.pJ] at h
   split at h
   · rename_i e;cases h;exact .inl ⟨e.symm,rfl⟩
   · cases h
  have l2:∀ {x k w},(TH.leaf m u).get x k=some w->(k=n/\w=o)\/(k=m/\w=u):=fun {x k w} h=>by
   rw [TH.pJ] at h
   split at h
   · rename_i e;cases h;exact .inr ⟨e.symm,rfl⟩
   · cases h
  have l0:∀ {x k w},TH.nil.get x k=some w->(k=n/\w=o)\/(k=m/\w=u):=fun h=>by cases h
  have nd:∀ {p q r s:TH},(∀ x k w,p.get x k=some w->(k=n/\w=o)\/(k=m/\w=u))->(∀ x k w,q.get x k=some w->(k=n/\w=o)\/(k=m/\w=u))->(∀ x k w,r.get x k=some w->(k=n/\w=o)\/(k=m/\w=u))->(∀ x k w,s.get x k=some w->(k=n/\w=o)\/(k=m/\w=u))->
   ∀ x k w,(TH.node p q r s).get x k=some w->(k=n/\w=o)\/(k=m/\w=u):=fun hp hq hr hs x k w h=>by
   rw [TH.j5] at h
   split at h
   · exact hp _ _ _ h
   · split at h
     · exact hq _ _ _ h
     · split at h
       · exact hr _ _ _ h
       · exact hs _ _ _ h
  have b0:=fun x k w=>@l0 x k w
  have b1:=fun x k w=>@l1 x k w
  have b2:=fun x k w=>@l2 x k w
  by_cases e:Nat.beq (b%4) (c%4)=true
  · rcases (show b%4=0\/b%4=1\/b%4=2\/b%4=3 by omega) with q|q|q|q
    · exact ⟨.node t .nil .nil .nil,fun α k=>by rw [TH.eW,e,Be,h1,cD];simp [q],nd h2 b0 b0 b0⟩
    · exact ⟨.node .nil t .nil .nil,fun α k=>by rw [TH.eW,e,Be,h1,cD];simp [q],nd b0 h2 b0 b0⟩
    · exact ⟨.node .nil .nil t .nil,fun α k=>by rw [TH.eW,e,Be,h1,cD];simp [q],nd b0 b0 h2 b0⟩
    · exact ⟨.node .nil .nil .nil t,fun α k=>by rw [TH.eW,e,Be,h1,cD];simp [q],nd b0 b0 b0 h2⟩
  · have e:Nat.beq (b%4) (c%4)=false:=by cases hb:Nat.beq (b%4) (c%4) with|true=>exact absurd hb e|false=>rfl
    rcases (show b%4=0\/b%4=1\/b%4=2\/b%4=3 by omega) with q|q|q|q<;>rcases (show c%4=0\/c%4=1\/c%4=2\/c%4=3 by omega) with p|p|p|p
    all_goals first
     |(exfalso;rw [q,p] at e;exact absurd e (by decide))
     |exact ⟨_,fun α k=>by rw [TH.eW,e,j3];simp only [cD,q,p];rfl,nd b1 b2 b0 b0⟩
     |exact ⟨_,fun α k=>by rw [TH.eW,e,j3];simp only [cD,q,p];rfl,nd b1 b0 b2 b0⟩
     |exact ⟨_,fun α k=>by rw [TH.eW,e,j3];simp only [cD,q,p];rfl,nd b1 b0 b0 b2⟩
     |exact ⟨_,fun α k=>by rw [TH.eW,e,j3];simp only [cD,q,p];rfl,nd b2 b1 b0 b0⟩
     |exact ⟨_,fun α k=>by rw [TH.eW,e,j3];simp only [cD,q,p];rfl,nd b0 b1 b2 b0⟩
     |exact ⟨_,fun α k=>by rw [TH.eW,e,j3];simp only [cD,q,p];rfl,nd b0 b1 b0 b2⟩
     |exact ⟨_,fun α k=>by rw [TH.eW,e,j3];simp only [cD,q,p];rfl,nd b2 b0 b1 b0⟩
     |exact ⟨_,fun α k=>by rw [TH.eW,e,j3];simp only [cD,q,p];rfl,nd b0 b2 b1 b0⟩
     |exact ⟨_,fun α k=>by rw [TH.eW,e,j3];simp only [cD,q,p];rfl,nd b0 b0 b1 b2⟩
     |exact ⟨_,fun α k=>by rw [TH.eW,e,j3];simp only [cD,q,p];rfl,nd b2 b0 b0 b1⟩
     |exact ⟨_,fun α k=>by rw [TH.eW,e,j3];simp only [cD,q,p];rfl,nd b0 b2 b0 b1⟩
     |exact ⟨_,fun α k=>by rw [TH.eW,e,j3];simp only [cD,q,p];rfl,nd b0 b0 b2 b1⟩
theorem TH.put_eq (n:Nat) (o:Obj):∀ (t:TH) (x p:Nat),∃ t':TH,(∀ (α:Type) (k:TH->α),TH.put n o t x p k=k t')/\∀ y k w,(k=n->y=x)->t'.get y k=some w->(k=n/\w=o)\/(k≠n/\t.get y k=some w)
 |.nil,x,p=>⟨.leaf n o,fun _ _=>rfl,fun y k w _ h=>by
   rw [TH.pJ] at h
   split at h
   · rename_i e;cases h;exact .inl ⟨e.symm,rfl⟩
   · cases h⟩
 |.leaf j u,x,p=>by
  by_cases e:j=n
  · subst e
    refine ⟨.leaf j o,fun α k=>?_,fun y k w _ h=>?_⟩
    · show aT (Nat.beq j j) _ _=_
      rw [show Nat.beq j j=true by simp,Be]
    · rw [TH.pJ] at h
      split at h
      · rename_i e;cases h;exact .inl ⟨e.symm,rfl⟩
      · cases h
  · obtain ⟨t',h1,h2⟩:=TH.VJ j n o u 40 x (j/p)
    refine ⟨t',fun α k=>?_,fun y k w _ h=>?_⟩
    · show aT (Nat.beq j n) _ _=_
      rw [show Nat.beq j n=false by cases hb:Nat.beq j n with|true=>exact absurd (Nat.eq_of_beq_eq_true hb) e|false=>rfl,j3]
      exact h1 α k
    · rcases h2 _ _ _ h with h|⟨rfl,rfl⟩
      · exact .inl h
      · exact .inr ⟨e,by rw [TH.pJ,if_pos rfl]⟩
 |.node a b c d,x,p=>by
  rcases (show x%4=0\/x%4=1\/x%4=2\/x%4=3 by omega) with q|q|q|q
  · obtain ⟨t',h1,h2⟩:=TH.put_eq n o a (x/4) (p*4)
    refine ⟨.node t' b c d,fun α k=>?_,fun y k w hy h=>?_⟩
    · show fW x (TH.put n o a (x/4) (p*4) fun r=>k (.node r b c d)) (TH.put n o b (x/4) (p*4) fun r=>k (.node a r c d)) (TH.put n o c (x/4) (p*4) fun r=>k (.node a b r d)) (TH.put n o d (x/4) (p*4) fun r=>k (.node a b c r))=_
      rw [cD];simp only [q];exact h1 _ _
    · rw [TH.j5] at h ⊢
      by_cases hk:k=n
      · rw [hy hk] at h ⊢
        simp only [q] at h
        rcases h2 _ _ _ (fun _=>rfl) h with h|h
        · exact .inl h
        · exact absurd hk h.1
      · right
        refine ⟨hk,?_⟩
        repeat' split at h
        all_goals simp_all
        all_goals rcases h2 _ _ _ (fun e=>absurd e hk) h with h|h
        all_goals first|exact absurd h.1 hk|exact h.2
  · obtain ⟨t',h1,h2⟩:=TH.put_eq n o b (x/4) (p*4)
    refine ⟨.node a t' c d,fun α k=>?_,fun y k w hy h=>?_⟩
    · show fW x (TH.put n o a (x/4) (p*4) fun r=>k (.node r b c d)) (TH.put n o b (x/4) (p*4) fun r=>k (.node a r c d)) (TH.put n o c (x/4) (p*4) fun r=>k (.node a b r d)) (TH.put n o d (x/4) (p*4) fun r=>k (.node a b c r))=_
      rw [cD];simp only [q];exact h1 _ _
    · rw [TH.j5] at h ⊢
      by_cases hk:k=n
      · rw [hy hk] at h ⊢
        simp only [q] at h
        rcases h2 _ _ _ (fun _=>rfl) h with h|h
        · exact .inl h
        · exact absurd hk h.1
      · right
        refine ⟨hk,?_⟩
        repeat' split at h
        all_goals simp_all
        all_goals rcases h2 _ _ _ (fun e=>absurd e hk) h with h|h
        all_goals first|exact absurd h.1 hk|exact h.2
  · obtain ⟨t',h1,h2⟩:=TH.put_eq n o c (x/4) (p*4)
    refine ⟨.node a b t' d,fun α k=>?_,fun y k w hy h=>?_⟩
    · show fW x (TH.put n o a (x/4) (p*4) fun r=>k (.node r b c d)) (TH.put n o b (x/4) (p*4) fun r=>k (.node a r c d)) (TH.put n o c (x/4) (p*4) fun r=>k (.node a b r d)) (TH.put n o d (x/4) (p*4) fun r=>k (.node a b c r))=_
      rw [cD];simp only [q];exact h1 _ _
    · rw [TH.j5] at h ⊢
      by_cases hk:k=n
      · rw [hy hk] at h ⊢
        simp only [q] at h
        rcases h2 _ _ _ (fun _=>rfl) h with h|h
        · exact .inl h
        · exact absurd hk h.1
      · right
        refine ⟨hk,?_⟩
        repeat' split at h
        all_goals simp_all
        all_goals rcases h2 _ _ _ (fun e=>absurd e hk) h with h|h
        all_goals first|exact absurd h.1 hk|exact h.2
  · obtain ⟨t',h1,h2⟩:=TH.put_eq n o d (x/4) (p*4)
    refine ⟨.node a b c t',fun α k=>?_,fun y k w hy h=>?_⟩
    · show fW x (TH.put n o a (x/4) (p*4) fun r=>k (.node r b c d)) (TH.put n o b (x/4) (p*4) fun r=>k (.node a r c d)) (TH.put n o c (x/4) (p*4) fun r=>k (.node a b r d)) (TH.put n o d (x/4) (p*4) fun r=>k (.node a b c r))=_
      rw [cD];simp only [q];exact h1 _ _
    · rw [TH.j5] at h ⊢
      by_cases hk:k=n
      · rw [hy hk] at h ⊢
        simp only [q] at h
        rcases h2 _ _ _ (fun _=>rfl) h with h|h
        · exact .inl h
        · exact absurd hk h.1
      · right
        refine ⟨hk,?_⟩
        repeat' split at h
        all_goals simp_all
        all_goals rcases h2 _ _ _ (fun e=>absurd e hk) h with h|h
        all_goals first|exact absurd h.1 hk|exact h.2
theorem TH.del_eq (n:Nat):∀ (t:TH) (x:Nat),∃ t':TH,(∀ (α:Type) (k:TH->α),TH.del n t x k=k t')/\∀ y k w,(k=n->y=x)->t'.get y k=some w->k≠n/\t.get y k=some w
 |.nil,x=>⟨.nil,fun _ _=>rfl,fun y k w _ h=>by cases h⟩
 |.leaf j u,x=>by
  by_cases e:j=n
  · subst e
    refine ⟨.nil,fun α k=>?_,fun y k w _ h=>by cases h⟩
    show aT (Nat.beq j j) _ _=_
    rw [show Nat.beq j j=true by simp,Be]
  · refine ⟨.leaf j u,fun α k=>?_,fun y k w _ h=>?_⟩
    · show aT (Nat.beq j n) _ _=_
      rw [show Nat.beq j n=false by cases hb:Nat.beq j n with|true=>exact absurd (Nat.eq_of_beq_eq_true hb) e|false=>rfl,j3]
    · refine ⟨?_,h⟩
      rw [TH.pJ] at h
      split at h
      · rename_i e2;subst e2;exact e
      · cases h
 |.node a b c d,x=>by
  rcases (show x%4=0\/x%4=1\/x%4=2\/x%4=3 by omega) with q|q|q|q
  · obtain ⟨t',h1,h2⟩:=TH.del_eq n a (x/4)
    refine ⟨.node t' b c d,fun α k=>?_,fun y k w hy h=>?_⟩
    · show fW x (TH.del n a (x/4) fun r=>k (.node r b c d)) (TH.del n b (x/4) fun r=>k (.node a r c d)) (TH.del n c (x/4) fun r=>k (.node a b r d)) (TH.del n d (x/4) fun r=>k (.node a b c r))=_
      rw [cD];simp only [q];exact h1 _ _
    · rw [TH.j5] at h ⊢
      by_cases hk:k=n
      · rw [hy hk] at h ⊢
        simp only [q] at h
        exact absurd hk (h2 _ _ _ (fun _=>rfl) h).1
      · refine ⟨hk,?_⟩
        repeat' split at h
        all_goals simp_all
        all_goals exact (h2 _ _ _ (fun e=>absurd e hk) h).2
  · obtain ⟨t',h1,h2⟩:=TH.del_eq n b (x/4)
    refine ⟨.node a t' c d,fun α k=>?_,fun y k w hy h=>?_⟩
    · show fW x (TH.del n a (x/4) fun r=>k (.node r b c d)) (TH.del n b (x/4) fun r=>k (.node a r c d)) (TH.del n c (x/4) fun r=>k (.node a b r d)) (TH.del n d (x/4) fun r=>k (.node a b c r))=_
      rw [cD];simp only [q];exact h1 _ _
    · rw [TH.j5] at h ⊢
      by_cases hk:k=n
      · rw [hy hk] at h ⊢
        simp only [q] at h
        exact absurd hk (h2 _ _ _ (fun _=>rfl) h).1
      · refine ⟨hk,?_⟩
        repeat' split at h
        all_goals simp_all
        all_goals exact (h2 _ _ _ (fun e=>absurd e hk) h).2
  · obtain ⟨t',h1,h2⟩:=TH.del_eq n c (x/4)
    refine ⟨.node a b t' d,fun α k=>?_,fun y k w hy h=>?_⟩
    · show fW x (TH.del n a (x/4) fun r=>k (.node r b c d)) (TH.del n b (x/4) fun r=>k (.node a r c d)) (TH.del n c (x/4) fun r=>k (.node a b r d)) (TH.del n d (x/4) fun r=>k (.node a b c r))=_
      rw [cD];simp only [q];exact h1 _ _
    · rw [TH.j5] at h ⊢
      by_cases hk:k=n
      · rw [hy hk] at h ⊢
        simp only [q] at h
        exact absurd hk (h2 _ _ _ (fun _=>rfl) h).1
      · refine ⟨hk,?_⟩
        repeat' split at h
        all_goals simp_all
        all_goals exact (h2 _ _ _ (fun e=>absurd e hk) h).2
  · obtain ⟨t',h1,h2⟩:=TH.del_eq n d (x/4)
    refine ⟨.node a b c t',fun α k=>?_,fun y k w hy h=>?_⟩
    · show fW x (TH.del n a (x/4) fun r=>k (.node r b c d)) (TH.del n b (x/4) fun r=>k (.node a r c d)) (TH.del n c (x/4) fun r=>k (.node a b r d)) (TH.del n d (x/4) fun r=>k (.node a b c r))=_
      rw [cD];simp only [q];exact h1 _ _
    · rw [TH.j5] at h ⊢
      by_cases hk:k=n
      · rw [hy hk] at h ⊢
        simp only [q] at h
        exact absurd hk (h2 _ _ _ (fun _=>rfl) h).1
      · refine ⟨hk,?_⟩
        repeat' split at h
        all_goals simp_all
        all_goals exact (h2 _ _ _ (fun e=>absurd e hk) h).2
def IM (t:TH) (h:aC):Prop:=∀ n o,t.get n n=some o->h.get n=some o
def fB:SM->St->Prop
 |.mk gn g ln l,st=>st.g.next=gn/\st.l.next=ln/\IM g st.g/\IM l st.l
def j6:Mem->aC->Prop
 |.mk n t,h=>h.next=n/\IM t h
theorem look_ok {m:SM} {st:St} (h:fB m st) {k:Key} {o:Obj} (hl:m.look k=some o):st.get k=some o:=by
 obtain ⟨gn,g,ln,l⟩:=m
 cases k with
 |g n=>exact h.2.2.1 n o hl
 |l n=>exact h.2.2.2 n o hl
theorem Ab {n:Nat} {o:Obj}:∀ {l:List (Nat×Obj)} {x:Nat},aC.find (aC.zV l n o) x=if x=n then (aC.find l n).map fun _=>o else aC.find l x
 |[],x=>by simp [aC.zV,aC.find]
 |(k,u)::r,x=>by
  simp only [aC.zV]
  split
  · rename_i h
    subst h
    simp only [aC.find]
    by_cases hx:x=k
    · subst hx;simp
    · rw [if_neg (Ne.symm hx),if_neg hx,if_neg (Ne.symm hx)]
  · rename_i h
    simp only [aC.find,Ab (l:=r)]
    by_cases hx:x=n
    · subst hx;rw [if_neg h,if_pos rfl,if_pos rfl,if_neg h]
    · by_cases hk:k=x
      · rw [if_pos hk,if_pos hk,if_neg hx]
      · rw [if_neg hk,if_neg hx,if_neg hx,if_neg hk]
theorem tM {n:Nat}:∀ {l:List (Nat×Obj)} {x:Nat},x≠n->aC.find (aC.del l n) x=aC.find l x
 |[],x,_=>rfl
 |(k,u)::r,x,h=>by
  simp only [aC.del]
  split
  · rename_i e
    subst e
    rw [tM h]
    simp only [aC.find]
    rw [if_neg (Ne.symm h)]
  · simp only [aC.find,tM h]
theorem ajK {t:TH} {h:aC} {n:Nat} {o o0:Obj} (hm:IM t h) (hg:h.get n=some o0) {t':TH} (ht:∀ y k w,(k=n->y=n)->t'.get y k=some w->(k=n/\w=o)\/(k≠n/\t.get y k=some w)):IM t' (h.set n o):=by
 intro x w hx
 show aC.find (aC.zV h.Kj n o) x=_
 rw [Ab]
 rcases ht _ _ _ (fun e=>e) hx with ⟨rfl,rfl⟩|⟨h1,h2⟩
 · rw [if_pos rfl]
   rw [show aC.find h.Kj x=some o0 from hg];rfl
 · rw [if_neg h1];exact hm _ _ h2
theorem ahX {t:TH} {h:aC} {o:Obj} (hm:IM t h) {t':TH} (ht:∀ y k w,(k=h.next->y=h.next)->t'.get y k=some w->(k=h.next/\w=o)\/(k≠h.next/\t.get y k=some w)):IM t' (h.push o):=by
 intro x w hx
 show aC.find ((h.next,o)::h.Kj) x=_
 simp only [aC.find]
 rcases ht _ _ _ (fun e=>e) hx with ⟨rfl,rfl⟩|⟨h1,h2⟩
 · rw [if_pos rfl]
 · rw [if_neg (Ne.symm h1)];exact hm _ _ h2
theorem aoY {t:TH} {h:aC} {n:Nat} (hm:IM t h) {t':TH} (ht:∀ y k w,(k=n->y=n)->t'.get y k=some w->k≠n/\t.get y k=some w):IM t' (h.remove n):=by
 intro x w hx
 obtain ⟨h1,h2⟩:=ht _ _ _ (fun e=>e) hx
 show aC.find (aC.del h.Kj n) x=_
 rw [tM h1];exact hm _ _ h2
theorem set_ok {m:SM} {st:St} (h:fB m st) {key:Key} {o o0:Obj} (hg:st.get key=some o0) {k:SM->α} {r:α} (he:m.set key o k=r):∃ m',k m'=r/\fB m' (st.set key o):=by
 obtain ⟨gn,g,ln,l⟩:=m
 obtain ⟨h1,h2,h3,h4⟩:=h
 cases key with
 |g n=>
  obtain ⟨t',e1,e2⟩:=TH.put_eq n o g n 1
  replace he:TH.put n o g n 1 (fun g=>k (.mk gn g ln l))=r:=he
  rw [e1] at he
  exact ⟨_,he,h1,h2,ajK h3 hg e2,h4⟩
 |l n=>
  obtain ⟨t',e1,e2⟩:=TH.put_eq n o l n 1
  replace he:TH.put n o l n 1 (fun l=>k (.mk gn g ln l))=r:=he
  rw [e1] at he
  exact ⟨_,he,h1,h2,h3,ajK h4 hg e2⟩
theorem push_ok {m:SM} {st:St} (h:fB m st) {b:Bool} {o:Obj} {k:Key->SM->α} {r:α} (he:m.push b o k=r):∃ m',k (st.aK b) m'=r/\fB m' (st.push b o):=by
 obtain ⟨gn,g,ln,l⟩:=m
 obtain ⟨h1,h2,h3,h4⟩:=h
 subst h1 h2
 cases b with
 |true=>
  obtain ⟨t',e1,e2⟩:=TH.put_eq st.g.next o g st.g.next 1
  replace he:TH.put st.g.next o g st.g.next 1 (fun g=>uH (st.g.next+1) fun n=>k (.g st.g.next) (.mk n g st.l.next l))=r:=he
  rw [e1,j4] at he
  exact ⟨_,he,rfl,rfl,ahX h3 e2,h4⟩
 |false=>
  obtain ⟨t',e1,e2⟩:=TH.put_eq st.l.next o l st.l.next 1
  replace he:TH.put st.l.next o l st.l.next 1 (fun l=>uH (st.l.next+1) fun n=>k (.l st.l.next) (.mk st.g.next g n l))=r:=he
  rw [e1,j4] at he
  exact ⟨_,he,rfl,rfl,h3,ahX h4 e2⟩
theorem drop_ok {m:SM} {st:St} (h:fB m st) {key:Key} {k:SM->α} {r:α} (he:m.drop key k=r):∃ m',k m'=r/\fB m' (st.remove key):=by
 obtain ⟨gn,g,ln,l⟩:=m
 obtain ⟨h1,h2,h3,h4⟩:=h
 cases key with
 |g n=>
  obtain ⟨t',e1,e2⟩:=TH.del_eq n g n
  replace he:TH.del n g n (fun g=>k (.mk gn g ln l))=r:=he
  rw [e1] at he
  exact ⟨_,he,h1,h2,aoY h3 e2,h4⟩
 |l n=>
  obtain ⟨t',e1,e2⟩:=TH.del_eq n l n
  replace he:TH.del n l n (fun l=>k (.mk gn g ln l))=r:=he
  rw [e1] at he
  exact ⟨_,he,h1,h2,h3,aoY h4 e2⟩
end
section
variable {δ:Type}
theorem fD:∀ (l:List δ) (n:Nat),iS l n=l[n]?
 |[],n=>by simp;rfl
 |a::r,0=>rfl
 |a::r,n+1=>by rw [List.getElem?_cons_succ,<-fD r n];rfl
theorem bT:∀ l:List δ,cK l=l.length
 |[]=>rfl
 |a::r=>by show cK r+1=_;rw [bT r];rfl
theorem qQ (m:List δ):∀ l:List δ,wX l m=l++m
 |[]=>rfl
 |a::r=>by show a::wX r m=_;rw [qQ m r];rfl
theorem lY:∀ (l:List δ) (n:Nat),lW l n=l.drop n
 |[],n=>by simp;rfl
 |a::r,0=>rfl
 |a::r,n+1=>lY r n
theorem pK:∀ (l:List δ) (n:Nat),pH l n=l.take n
 |[],n=>by simp;rfl
 |a::r,0=>rfl
 |a::r,n+1=>by show a::pH r n=_;rw [pK r n];rfl
theorem IN:∀ (l:List δ) (n:Nat) (x:δ),Rv l n x=l.set n x
 |[],n,x=>rfl
 |a::r,0,x=>rfl
 |a::r,n+1,x=>by show a::Rv r n x=_;rw [IN r n x];rfl
theorem eO {α:Type}:∀ (l:List δ) (k:List δ->α),spell l k=k l
 |[],k=>rfl
 |a::r,k=>by show spell r (fun r=>k (a::r))=_;rw [eO r]
theorem wD (m:List δ):∀ (l:List δ) (k:List δ->Rz),ET l m k=k (l++m)
 |[],k=>rfl
 |a::r,k=>by show ET r m (fun r=>k (a::r))=_;rw [wD m r];rfl
theorem CI (x:δ):∀ n:Nat,O5 n x=List.replicate n x
 |0=>rfl
 |n+1=>by show x::O5 n x=_;rw [CI x n];rfl
theorem K9:∀ (n:Nat) (l:List δ),K5 n l=if n<=l.length then some (l.take n) else none
 |0,l=>by simp;rfl
 |n+1,[]=>by simp;rfl
 |n+1,a::r=>by
  show bM (K5 n r) none (fun x=>some (a::x))=_
  rw [K9 n r]
  by_cases h:n<=r.length
  · rw [if_pos h,if_pos (by simpa using h)];rfl
  · rw [if_neg h,if_neg (by simpa using h)];rfl
theorem DD:∀ (l:List δ) (n:Nat),sS l n []=l
 |[],_=>rfl
 |a::r,0=>rfl
 |a::r,n+1=>by show a::sS r n []=_;rw [DD r n]
theorem wE (v:δ) (q:List δ):∀ (l:List δ) (n:Nat),sS l n (v::q)=sS (l.set n v) (n+1) q
 |[],_=>rfl
 |a::r,0=>rfl
 |a::r,n+1=>by show a::sS r n (v::q)=a::sS (r.set n v) (n+1) q;rw [wE v q r n]
end
theorem IP:∀ (vs l:List V) (n:Nat),sS l n vs=cS l n vs
 |[],l,n=>DD l n
 |v::q,l,n=>by rw [wE,IP q];rfl
theorem IQ (cs:List V) (off:Nat) (n:Option Nat):Qc cs off n=dF cs off n:=by
 cases n with
 |none=>exact fD cs off
 |some n=>
  show aT (Nat.beq n 0) (dF cs off (some 0)) (bM (K5 n (lW cs off)) none fun x=>some (.agg x))=_
  cases n with
  |zero=>rfl
  |succ n=>
   show bM (K5 (n+1) (lW cs off)) none (fun x=>some (V.agg x))=_
   rw [K9,lY]
   simp only [dF,List.length_drop]
   by_cases h:off+(n+1)<=cs.length
   · rw [if_pos h,if_pos (by omega)];rfl
   · rw [if_neg h,if_neg (by omega)];rfl
open Go
theorem g9 (k j:IntKind):qZ k j=decide (k=j):=by cases k<;>cases j<;>rfl
theorem fQ (b:Bool):jF b=!b:=by cases b<;>rfl
theorem q7 (x y:Int):Ov x y=decide (x<y):=by
 cases x<;>cases y<;>show _=_
 · rename_i a b;show Nat.ble (a+1) b=_;rw [cL];exact decide_eq_decide.2 (by simp only [Int.ofNat_eq_natCast];omega)
 · rename_i a b;exact (decide_eq_false (by simp only [Int.ofNat_eq_natCast];omega)).symm
 · rename_i a b;exact (decide_eq_true (by simp only [Int.ofNat_eq_natCast];omega)).symm
 · rename_i a b;show Nat.ble (b+1) a=_;rw [cL];exact decide_eq_decide.2 (by omega)
theorem uK (x y:Int):Rw x y=decide (x=y):=by
 cases x<;>cases y<;>show _=_
 · rename_i a b;show Nat.beq a b=_;rw [eN];exact decide_eq_decide.2 (by simp only [Int.ofNat_eq_natCast];omega)
 · exact (decide_eq_false (by simp)).symm
 · exact (decide_eq_false (by simp)).symm
 · rename_i a b;show Nat.beq a b=_;rw [eN];exact decide_eq_decide.2 (by omega)
theorem Qg (x y:Int):ajE x y=x+y:=by cases x<;>cases y<;>rfl
theorem ae2 (x y:Int):aoV x y=x*y:=by cases x<;>cases y<;>rfl
theorem ae3 (x y:Int):aoU x y=x - y:=by
 cases x<;>cases y<;>try rfl
 rename_i a b
 show aT (Nat.ble b a) (Int.ofNat (a - b)) (Int.ofNat a - Int.ofNat b)=_
 rw [b9]
 split
 · rename_i h
   rw [cL] at h;have:=of_decide_eq_true h
   simp only [Int.ofNat_eq_natCast];omega
 · rfl
theorem La (k:IntKind) (n:Int):wr k n=k.wrap n:=by
 cases n with
 |negSucc a=>rfl
 |ofNat a=>
  cases k<;>try rfl
  · show aT (Nat.ble a 9223372036854775807) (Int.ofNat a) _=_
    rw [b9]
    split
    · rename_i h
      rw [cL] at h;have h:=of_decide_eq_true h
      exact (lD (kd:=.i64) (by simp only [IntKind.min,IntKind.bits,IntKind.signed,Int.ofNat_eq_natCast];first|(simp;done)|(simp;omega)) (by simp only [IntKind.max,IntKind.bits,IntKind.signed,Int.ofNat_eq_natCast];first|(simp;done)|(simp;omega))).symm
    · rfl
  all_goals
   show Int.ofNat (a%_)=_
   simp [IntKind.wrap,IntKind.bits,IntKind.signed]
theorem rY (kd:IntKind) (n:Int) (k:V->Rz):iK kd n k=k (.i kd n):=by
 cases n with
 |ofNat a=>exact j4 a fun a=>k (.i kd (.ofNat a))
 |negSucc a=>rfl
theorem VK {x y:UInt8}:(Cf x=Cf y)↔x=y:=UInt8.toNat_inj
theorem q8:∀ a b:List UInt8,ID a b=(a==b)
 |[],[]=>rfl
 |[],_::_=>rfl
 |_::_,[]=>rfl
 |x::r,y::q=>by
  show aT (Nat.beq (Cf x) (Cf y)) (ID r q) false=_
  rw [b9,q8 r q,eN]
  by_cases h:x=y
  · subst h;simp
  · rw [if_neg (by simpa using fun e=>h (VK.1 e))];simp [h]
theorem yW:∀ a b:List UInt8,Ow a b=Op.bytesLess a b
 |[],[]=>rfl
 |[],_::_=>rfl
 |_::_,[]=>rfl
 |x::r,y::q=>by
  show aT (Nat.beq (Cf x) (Cf y)) (Ow r q) (Nat.ble (Cf x+1) (Cf y))=_
  rw [b9,yW r q,eN,cL]
  simp only [Op.bytesLess]
  by_cases h:x=y
  · subst h;simp
  · rw [if_neg (by simpa using fun e=>h (VK.1 e))]
    simp only [UInt8.lt_iff_toNat_lt,Cf,beq_eq_false_iff_ne.2 h,Bool.false_and,Bool.or_false]
    rfl
theorem IS:∀ x:List UInt8,VA x=eE x
 |[]=>rfl
 |c::r=>by show [V.i .u8 (.ofNat (Cf c))]::VA r=_;rw [IS r];rfl
theorem AB (n b:Nat):Dz n b=gO n b:=by unfold Dz gO;exact cL
theorem wF (k:Key):Cg k=k.rD:=by cases k<;>rfl
theorem ae4 (v:V):ES v=v.out:=by
 cases v<;>first
  |rfl
  |(rename_i k _;cases k<;>rfl)
  |(rename_i k _ _ _;cases k<;>rfl)
  |(rename_i k;cases k<;>rfl)
  |(rename_i t _ _;cases t with
    |none=>rfl
    |some k=>cases k<;>rfl)
theorem wG:∀ l:List V,lX ES l=V.outs l
 |[]=>rfl
 |v::r=>by
  show bM (ES v) none (fun x=>bM (lX ES r) none fun y=>some (x::y))=_
  rw [wG r,ae4]
  simp only [V.outs]
  cases v.out<;>cases V.outs r<;>rfl
theorem AD (v:V):uI v=v.pass:=by
 cases v<;>first
  |rfl
  |(rename_i k _;cases k<;>rfl)
  |(rename_i k _ _ _;cases k<;>rfl)
  |(rename_i k;cases k<;>rfl)
  |(rename_i t _ _;cases t with
    |none=>rfl
    |some k=>cases k<;>rfl)
  |(rename_i f a c
    show bM (lX ES a) none (fun x=>bM (lX ES c) none fun y=>some (V.fn f x y))=_
    rw [wG,wG];simp only [V.pass];cases V.outs a<;>cases V.outs c<;>rfl)
  |(rename_i c
    show bM (lX ES c) none (fun x=>some (V.agg x))=_
    rw [wG];simp only [V.pass];cases V.outs c<;>rfl)
theorem pL:∀ l:List V,j2 l=eM l
 |[]=>rfl
 |v::r=>by
  show bM (uI v) none (fun x=>bM (j2 r) none fun y=>some (x::y))=_
  rw [pL r,AD]
  simp only [eM]
  cases v.pass<;>cases eM r<;>rfl
theorem VL (v:V):Gj v=v.deep:=by cases v<;>rfl
theorem Gl:∀ l:List V,lX Gj l=k9 l
 |[]=>rfl
 |v::r=>by
  show bM (Gj v) none (fun x=>bM (lX Gj r) none fun y=>some (x::y))=_
  rw [Gl r,VL]
  simp only [k9]
  cases v.deep<;>cases k9 r<;>rfl
theorem sT:∀ l:List (List V),Ay l=eR l
 |[]=>rfl
 |v::r=>by
  show bM (lX Gj v) none (fun x=>bM (Ay r) none fun y=>some (x::y))=_
  rw [sT r,Gl]
  simp only [eR]
  cases k9 v<;>cases eR r<;>rfl
theorem Qh (g:Bool) (l:List V):O6 g l=rH g l:=by cases g<;>first|rfl|exact pL l
theorem VM:∀ l:List (List V),eU false l=some l
 |[]=>rfl
 |e::r=>by simp only [eU,rH,VM r]
theorem VN:∀ l:List (List V),lX j2 l=eU true l
 |[]=>rfl
 |v::r=>by
  show bM (j2 v) none (fun x=>bM (lX j2 r) none fun y=>some (x::y))=_
  rw [VN r,pL]
  simp only [eU,rH]
  cases eM v<;>cases eU true r<;>rfl
theorem Bf (g:Bool) (l:List (List V)):Dx g l=eU g l:=by
 cases g
 · exact (VM l).symm
 · exact VN l
theorem Lb {α:Type} (k:V->α) (v:V):vK k v=k v:=by cases v<;>rfl
theorem Bg (x y:V):yU x y=rI x y:=by
 cases x<;>cases y<;>try rfl
 · rename_i k a j b
   show aT (qZ k j) (Rw a b) false=_
   rw [b9,g9,uK]
   simp only [rI]
   by_cases h:k=j<;>simp [h]
 · rename_i a b;exact q8 a b
theorem Bh (kd:Option IntKind) (v:V):yV kd v=v.dA kd:=by
 cases kd with
 |none=>cases v<;>rfl
 |some k=>cases v<;>first|rfl|(rename_i j _;show qZ k j=_;rw [g9];rfl)
theorem ae5 (a b:Option IntKind):VB a b=decide (a=b):=by
 cases a<;>cases b<;>first|rfl|(rename_i x y;show qZ x y=_;rw [g9];exact decide_eq_decide.2 (by simp))
theorem Gm (x:V):∀ l:List (V×V),IF x l=zY l x
 |[]=>rfl
 |(k,v)::r=>by
  show aT (yU x k) (some v) (IF x r)=_
  rw [b9,Gm x r,Bg];rfl
theorem Lc (x v:V):∀ l:List (V×V),Qd x v l=fH l x v
 |[]=>rfl
 |(k,u)::r=>by
  show aT (yU x k) ((x,v)::r) ((k,u)::Qd x v r)=_
  rw [b9,Lc x v r,Bg];rfl
theorem Ld (x:V):∀ l:List (V×V),Qe x l=Kn l x
 |[]=>rfl
 |(k,u)::r=>by
  show aT (yU x k) r ((k,u)::Qe x r)=_
  rw [b9,Ld x r,Bg];rfl
theorem O9 (k:CK) (x y:V):IG k x y=oY k x y:=by
 cases k<;>cases x<;>first
  |rfl
  |(cases y<;>first
    |rfl
    |(rename_i a b;cases a<;>cases b<;>rfl)
    |(rename_i a b c d
      show aT (qZ a c) (some (Rw b d)) none=_
      rw [b9,g9,uK];simp only [oY];by_cases h:a=c<;>simp [h])
    |(rename_i a b;show some (ID a b)=_;rw [q8];rfl))
theorem BN:∀ (ks:List CK) (x y:List V),AA ks x y=cH ks x y
 |[],[],[]=>rfl
 |[],[],_::_=>rfl
 |[],_::_,_=>rfl
 |_::_,[],_=>rfl
 |_::_,_::_,[]=>rfl
 |k::ks,a::r,b::q=>by
  show bM (IG k a b) none (fun e=>bM (AA ks r q) none fun f=>some (aT e f false))=_
  rw [BN ks r q,O9]
  simp only [cH]
  cases oY k a b with
  |none=>rfl
  |some e=>cases cH ks r q<;>cases e<;>rfl
theorem VO (max:Bool):∀ (l:List V) (v:V),mm2 max l v=gC max v l
 |[],v=>by cases v<;>rfl
 |w::r,v=>by
  cases v<;>first
   |rfl
   |(cases w<;>first
     |rfl
     |(rename_i k x j y
       show mm2 max r (.i k (aT max (aT (Ov x y) y x) (aT (Ov y x) y x)))=_
       rw [VO max r]
       cases max
       · show gC false (.i k (aT (Ov y x) y x)) r=_
         rw [b9,q7];simp only [gC,decide_eq_true_eq]
       · show gC true (.i k (aT (Ov x y) y x)) r=_
         rw [b9,q7];simp only [gC,decide_eq_true_eq]))
theorem Bi:∀ l:List (List V),Bc l=bytesOf l
 |[]=>rfl
 |[]::r=>rfl
 |(v::u::q)::r=>by cases v<;>first|rfl|(rename_i k n;cases k<;>rfl)
 |[v]::r=>by
  cases v<;>first
   |rfl
   |(rename_i k n
     show aT (qZ k .u8) (bM (Bc r) none fun y=>some (UInt8.ofNat n.toNat::y)) none=_
     rw [Bi r,b9,g9]
     cases k<;>simp [bytesOf]<;>cases bytesOf r<;>rfl)
theorem Lf (cs:List V) (off:Nat) (vs:List V):Gk cs off vs.length=qU cs off vs:=by
 unfold Gk qU
 rw [b9,eN]
 by_cases h:vs.length=0
 · rw [if_pos (by simpa using h),bT,cL,h];rfl
 · rw [if_neg (by simpa using h),fD]
   show (bM cs[off+vs.length - 1]? false fun _=>true)=_
   by_cases h2:off+vs.length<=cs.length
   · rw [decide_eq_true h2,List.getElem?_eq_getElem (show off+vs.length - 1<cs.length by omega)];rfl
   · rw [decide_eq_false h2,List.getElem?_eq_none (show cs.length<=off+vs.length - 1 by omega)];rfl
section
variable {r:Rz}
theorem aR {c:Bool} {k:Rz} (h:bG c k=r) (hr:r≠.none):c=true/\k=r:=by
 cases c
 · exact absurd h.symm hr
 · exact ⟨rfl,h⟩
theorem bO {δ:Type} {o:Option δ} {k:δ->Rz} (h:asks o k=r) (hr:r≠.none):∃ x,o=some x/\k x=r:=by
 cases o
 · exact absurd h.symm hr
 · exact ⟨_,rfl,h⟩
theorem pM {x:Int} {k:Nat->Rz} (h:Az x k=r) (hr:r≠.none):∃ n:Nat,x=(n:Int)/\k n=r:=by
 cases x
 · exact ⟨_,rfl,h⟩
 · exact absurd h.symm hr
theorem Pa {v:V} {k0:Bool->Rz} (h:vB .none k0 v=r) (hr:r≠.none):(∃ a,v=.b a/\k0 a=r):=by
 cases v<;>first|exact absurd h.symm hr|exact ⟨_,rfl,h⟩
theorem q9 {v:V} {k0:IntKind->Int->Rz} (h:fU .none k0 v=r) (hr:r≠.none):(∃ a b,v=.i a b/\k0 a b=r):=by
 cases v<;>first|exact absurd h.symm hr|exact ⟨_,_,rfl,h⟩
theorem Bj {v:V} {k0:List UInt8->Rz} (h:mB .none k0 v=r) (hr:r≠.none):(∃ a,v=.s a/\k0 a=r):=by
 cases v<;>first|exact absurd h.symm hr|exact ⟨_,rfl,h⟩
theorem ae6 {v:V} {k0:IntKind->Int->Rz} {k1:List UInt8->Rz} (h:vIS .none k0 k1 v=r) (hr:r≠.none):(∃ a b,v=.i a b/\k0 a b=r)\/(∃ a,v=.s a/\k1 a=r):=by
 cases v<;>first|exact absurd h.symm hr|exact .inl ⟨_,_,rfl,h⟩|exact .inr (⟨_,rfl,h⟩)
theorem IT {v:V} {k0:Key->Nat->Rz} {k1:Key->Nat->Nat->Nat->Rz} {k2:List V->Nat->Rz} (h:vP .none k0 k1 k2 v=r) (hr:r≠.none):(∃ a b,v=.p a b/\k0 a b=r)\/(∃ a b c d,v=.pa a b c d/\k1 a b c d=r)\/(∃ a b,v=.pc a b/\k2 a b=r):=by
 cases v<;>first|exact absurd h.symm hr|exact .inl ⟨_,_,rfl,h⟩|exact .inr (.inl ⟨_,_,_,_,rfl,h⟩)|exact .inr (.inr (⟨_,_,rfl,h⟩))
theorem ajL {v:V} {k0:Key->Nat->Rz} {k1:Key->Nat->Nat->Nat->Rz} {k2:List V->Nat->Rz} {k3:Nat->List V->List V->Rz} (h:vQ .none k0 k1 k2 k3 v=r) (hr:r≠.none):(∃ a b,v=.p a b/\k0 a b=r)\/(∃ a b c d,v=.pa a b c d/\k1 a b c d=r)\/(∃ a b,v=.pc a b/\k2 a b=r)\/(∃ a b c,v=.fn a b c/\k3 a b c=r):=by
 cases v<;>first|exact absurd h.symm hr|exact .inl ⟨_,_,rfl,h⟩|exact .inr (.inl ⟨_,_,_,_,rfl,h⟩)|exact .inr (.inr (.inl ⟨_,_,rfl,h⟩))|exact .inr (.inr (.inr (⟨_,_,_,rfl,h⟩)))
theorem pN {v:V} {k0:List UInt8->Rz} {k1:Rz} {k2:Option Key->Nat->List (List V)->Rz} {k3:Key->Nat->Nat->Nat->Rz} (h:vL .none k0 k1 k2 k3 v=r) (hr:r≠.none):(∃ a,v=.s a/\k0 a=r)\/(v=.aB/\k1=r)\/(∃ a b c,v=.sl a b c/\k2 a b c=r)\/(∃ a b c d,v=.ms a b c d/\k3 a b c d=r):=by
 cases v<;>first|exact absurd h.symm hr|exact .inl ⟨_,rfl,h⟩|exact .inr (.inl ⟨rfl,h⟩)|exact .inr (.inr (.inl ⟨_,_,_,rfl,h⟩))|exact .inr (.inr (.inr (⟨_,_,_,_,rfl,h⟩)))
theorem DE {v:V} {k0:Rz} {k1:Key->Rz} (h:vM .none k0 k1 v=r) (hr:r≠.none):(v=.eG/\k0=r)\/(∃ a,v=.m a/\k1 a=r):=by
 cases v<;>first|exact absurd h.symm hr|exact .inl ⟨rfl,h⟩|exact .inr (⟨_,rfl,h⟩)
theorem VP {v:V} {k0:List V->Rz} (h:vA .none k0 v=r) (hr:r≠.none):(∃ a,v=.agg a/\k0 a=r):=by
 cases v<;>first|exact absurd h.symm hr|exact ⟨_,rfl,h⟩
theorem ajM {v:V} {k0:List V->Rz} (h:vT .none k0 v=r) (hr:r≠.none):(∃ a,v=.bC a/\k0 a=r):=by
 cases v<;>first|exact absurd h.symm hr|exact ⟨_,rfl,h⟩
theorem ajN {v:V} {k0:Nat->List V->List V->Rz} (h:vF .none k0 v=r) (hr:r≠.none):(∃ a b c,v=.fn a b c/\k0 a b c=r):=by
 cases v<;>first|exact absurd h.symm hr|exact ⟨_,_,_,rfl,h⟩
theorem ae7 {v:V} {k0:Rz} {k1:Key->Nat->Rz} {k2:Key->Nat->Nat->Nat->Rz} (h:vNp .none k0 k1 k2 v=r) (hr:r≠.none):(v=.fM/\k0=r)\/(∃ a b,v=.p a b/\k1 a b=r)\/(∃ a b c d,v=.pa a b c d/\k2 a b c d=r):=by
 cases v<;>first|exact absurd h.symm hr|exact .inl ⟨rfl,h⟩|exact .inr (.inl ⟨_,_,rfl,h⟩)|exact .inr (.inr (⟨_,_,_,_,rfl,h⟩))
theorem ae8 {v:V} {k0:Rz} {k1:Nat->List V->List V->Rz} (h:vNf .none k0 k1 v=r) (hr:r≠.none):(v=.fN/\k0=r)\/(∃ a b c,v=.fn a b c/\k1 a b c=r):=by
 cases v<;>first|exact absurd h.symm hr|exact .inl ⟨rfl,h⟩|exact .inr (⟨_,_,_,rfl,h⟩)
theorem ae9 {v:V} {k0:Rz} {k1:Rz} {k2:Rz} {k3:Rz} (h:vN4 .none k0 k1 k2 k3 v=r) (hr:r≠.none):(v=.fM/\k0=r)\/(v=.aB/\k1=r)\/(v=.eG/\k2=r)\/(v=.fN/\k3=r):=by
 cases v<;>first|exact absurd h.symm hr|exact .inl ⟨rfl,h⟩|exact .inr (.inl ⟨rfl,h⟩)|exact .inr (.inr (.inl ⟨rfl,h⟩))|exact .inr (.inr (.inr (⟨rfl,h⟩)))
theorem Pb {v:V} {k0:Bool->Rz} {k1:List V->Rz} (h:vG .none k0 k1 v=r) (hr:r≠.none):(∃ a,v=.b a/\k0 a=r)\/(∃ a,v=.bC a/\k1 a=r):=by
 cases v<;>first|exact absurd h.symm hr|exact .inl ⟨_,rfl,h⟩|exact .inr (⟨_,rfl,h⟩)
theorem IU {v:V} {k:List V->Rz} (h:vC .none k v=r) (hr:r≠.none):v.sto=true/\k v.cells=r:=by
 cases v<;>first|exact ⟨rfl,h⟩|exact absurd h.symm hr
theorem Qi {row:Bool} {v:V} {k:List V->Rz} (h:VC row v k=r) (hr:r≠.none):∃ cs,v.row row=some cs/\k cs=r:=by
 cases row<;>cases v<;>first|exact ⟨_,rfl,h⟩|exact absurd h.symm hr
section
variable {m:SM} {st:St}
theorem Qj (hs:fB m st) {key:Key} {k:List V->Rz} (h:csC m key k=r) (hr:r≠.none):∃ c,st.get key=some (.cs c)/\k c=r:=by
 obtain ⟨o,h1,h2⟩:=bO h hr
 have:=look_ok hs h1
 cases o<;>first|exact ⟨_,this,h2⟩|exact absurd h2.symm hr
theorem lZ (hs:fB m st) {key:Key} {sz:Nat} {k:List (List V)->Rz} (h:yS m key sz k=r) (hr:r≠.none):∃ es,st.get key=some (.arr sz es)/\k es=r:=by
 obtain ⟨o,h1,h2⟩:=bO h hr
 have:=look_ok hs h1
 cases o with
 |arr z es=>
  obtain ⟨h3,h4⟩:=aR h2 hr
  rw [eN,decide_eq_true_eq] at h3
  subst h3
  exact ⟨_,this,h4⟩
 |_=>exact absurd h2.symm hr
theorem Lg (hs:fB m st) {key:Key} {k:Rz} (h:aeY m key k=r) (hr:r≠.none):st.get key=some .spare/\k=r:=by
 obtain ⟨o,h1,h2⟩:=bO h hr
 have:=look_ok hs h1
 cases o<;>first|exact ⟨this,h2⟩|exact absurd h2.symm hr
theorem IW (hs:fB m st) {key:Key} {kd:Option IntKind} {k:List (V×V)->Rz} (h:mpC m key kd k=r) (hr:r≠.none):∃ es,st.get key=some (.mp kd es)/\k es=r:=by
 obtain ⟨o,h1,h2⟩:=bO h hr
 have:=look_ok hs h1
 cases o with
 |mp z es=>
  obtain ⟨h3,h4⟩:=aR h2 hr
  rw [ae5,decide_eq_true_eq] at h3
  subst h3
  exact ⟨_,this,h4⟩
 |_=>exact absurd h2.symm hr
end
end
open Go
def sE (f:Fc) (fr:Fr):Prop:=∀ n,(jE n).run f=fr.get n
def Ci (rf:Rf) (A:bK):Prop:=∀ g vs m v m',rf g vs m=.some v m'->∀ h,j6 m h->∀ K:V->aC->Prop,(∀ h',j6 m' h'->K v h')->A g vs h K
section
variable {f:Fc} {fr:Fr} (hf:sE f fr)
include hf
theorem yX (x:bH):(dB x).run f=x.ev fr:=by
 cases x with
 |t n=>exact hf n
 |c v=>rfl
theorem Qk:∀ l:List bH,(K6 l).run f=bH.BB fr l
 |[]=>rfl
 |x::r=>by show (dB x).run f::(K6 r).run f=_;rw [yX hf,Qk r];rfl
theorem afA (x:Option bH):(pI x).run f=bH.tJ fr x:=by
 cases x with
 |none=>rfl
 |some x=>show some ((dB x).run f)=_;rw [yX hf];rfl
theorem Ql:∀ (l:List bH) (k:List V->Rz),(aeZ l).run f k=k (bH.BB fr l)
 |[],k=>rfl
 |x::r,k=>by
  show vK (fun v=>(aeZ r).run f fun r=>k (v::r)) ((dB x).run f)=_
  rw [Lb,yX hf,Ql r];rfl
variable {r:Rz}
theorem DF (hr:r≠.none):∀ (ps:List (Nat×Nat×bH)) (cs:List V) (k:List V->Rz),O7 ps f cs k=r->∃ B6,hZ cs (dD fr ps)=some B6/\k B6=r
 |[],cs,k,h=>⟨cs,rfl,h⟩
 |(a,b,x)::q,cs,k,h=>by
  replace h:vC .none (fun vs=>bG (Nat.beq (cK vs) b) (bG (Nat.ble (Nat.add a b) (cK cs)) (spell (sS cs a vs) fun cs=>O7 q f cs k))) ((dB x).run f)=r:=h
  rw [yX hf] at h
  obtain ⟨h1,h⟩:=IU h hr
  obtain ⟨h2,h⟩:=aR h hr
  obtain ⟨h3,h⟩:=aR h hr
  rw [bT,eN,decide_eq_true_eq] at h2
  rw [bT,cL,decide_eq_true_eq] at h3
  rw [eO,IP] at h
  obtain ⟨B6,h4,h5⟩:=DF hr q _ k h
  exact ⟨B6,by simp only [dD,hZ];rw [if_pos ⟨h1,h2,h3⟩];exact h4,h5⟩
theorem DG (hr:r≠.none) (sz:Nat):∀ (ps:List (Nat×bH)) (es:List (List V)) (k:List (List V)->Rz),O8 ps sz f es k=r->∃ sD,lC es sz (fG fr ps)=some sD/\k sD=r
 |[],cs,k,h=>⟨cs,rfl,h⟩
 |(a,x)::q,es,k,h=>by
  replace h:vC .none (fun vs=>bG (Nat.beq (cK vs) sz) (bG (Nat.ble (Nat.succ a) (cK es)) (spell (Rv es a vs) fun es=>O8 q sz f es k))) ((dB x).run f)=r:=h
  rw [yX hf] at h
  obtain ⟨h1,h⟩:=IU h hr
  obtain ⟨h2,h⟩:=aR h hr
  obtain ⟨h3,h⟩:=aR h hr
  rw [bT,eN,decide_eq_true_eq] at h2
  rw [bT,cL,decide_eq_true_eq] at h3
  rw [eO,IN] at h
  obtain ⟨B6,h4,h5⟩:=DG hr sz q _ k h
  exact ⟨B6,by simp only [fG,lC];rw [if_pos ⟨h1,h2,h3⟩];exact h4,h5⟩
end
section
variable {r:Rz} (hr:r≠.none)
include hr
theorem iU {o:Option V} {n:Nat} {k:Nat->Rz} (h:Ch o n k=r):∃ j:Nat,dW o n=some (j:Int)/\k j=r:=by
 cases o with
 |none=>exact ⟨n,rfl,h⟩
 |some v=>
  rcases q9 (v:=v) h hr with ⟨a,b,rfl,h⟩
  obtain ⟨j,rfl,h⟩:=pM h hr
  exact ⟨j,rfl,h⟩
variable {A:bK} {m:SM} {st:St} {P:R->Prop} (hs:fB m st)
include hs
theorem newSl_ok {md:jQ} {sz:Nat} {es:List (List V)} {k:Kz} (h:Dy md sz es m k=r) (hP:∀ v m' bA,fB m' bA->k v m'=r->P (v,bA)):(oZ md sz es st).wp A P:=by
 cases md with
 |im g=>
  obtain ⟨ds,h1,h2⟩:=bO h hr
  rw [sT] at h1
  obtain ⟨m',h3,h4⟩:=push_ok hs h2
  exact ⟨ds,h1,hP _ _ _ h4 h3⟩
 |mu g=>
  obtain ⟨ds,h1,h2⟩:=bO h hr
  rw [Bf] at h1
  obtain ⟨m',h3,h4⟩:=push_ok hs h2
  rw [bT] at h3
  exact ⟨ds,h1,hP _ _ _ h4 h3⟩
 |fz=>
  obtain ⟨ds,h1,h2⟩:=bO h hr
  rw [sT] at h1
  exact ⟨ds,h1,hP _ _ _ hs h2⟩
theorem elems2_ok {sz:Nat} {v:V} {k:List (List V)->Rz} {kk:List (List V)->T R} (h:yT sz m v k=r) (hk:∀ es,k es=r->(kk es).wp A P):(fP sz st v kk).wp A P:=by
 replace h:=pN h hr;rcases h with ⟨x,rfl,h⟩|⟨rfl,h⟩|⟨t,z,es,rfl,h⟩|⟨key,z,s,n,rfl,h⟩
 · obtain ⟨h1,h⟩:=aR h hr
   rw [eN,decide_eq_true_eq] at h1
   rw [IS] at h
   simp only [fP,if_pos h1]
   exact hk _ h
 · exact hk _ h
 · obtain ⟨h1,h⟩:=aR h hr
   rw [eN,decide_eq_true_eq] at h1
   simp only [fP,if_pos h1]
   exact hk _ h
 · obtain ⟨h1,h⟩:=aR h hr
   rw [eN,decide_eq_true_eq] at h1
   obtain ⟨es,h2,h⟩:=lZ hs h hr
   obtain ⟨h3,h⟩:=aR h hr
   rw [cL,bT] at h3
   rw [pK,lY] at h
   simp only [fP,if_pos h1]
   refine ⟨_,h2,?_⟩
   dsimp only
   rw [if_pos rfl]
   exact ⟨h3,hk _ h⟩
theorem append2_ok {md:jQ} {sz bytes:Nat} {s:V} {new:List (List V)} {k:Kz} (h:IE md sz bytes m s new k=r) (hP:∀ v m' bA,fB m' bA->k v m'=r->P (v,bA)):(iM md sz bytes st s new).wp A P:=by
 cases new with
 |nil=>
  replace h:=pN h hr;rcases h with ⟨x,rfl,h⟩|⟨rfl,h⟩|⟨t,z,es,rfl,h⟩|⟨key,z,off,len,rfl,h⟩
  · exact absurd h.symm hr
  · exact hP _ _ _ hs h
  · obtain ⟨h1,h⟩:=aR h hr
    rw [eN,decide_eq_true_eq] at h1
    simp only [iM,if_pos h1]
    exact hP _ _ _ hs h
  · obtain ⟨h1,h⟩:=aR h hr
    rw [eN,decide_eq_true_eq] at h1
    simp only [iM,if_pos h1]
    exact hP _ _ _ hs h
 |cons e q=>
  replace h:=pN h hr;rcases h with ⟨x,rfl,h⟩|⟨rfl,h⟩|⟨t,z,es,rfl,h⟩|⟨key,z,off,len,rfl,h⟩
  · exact absurd h.symm hr
  · obtain ⟨h1,h⟩:=aR h hr
    rw [AB,bT] at h1
    exact ⟨h1,newSl_ok hr hs h hP⟩
  · obtain ⟨h1,h⟩:=aR h hr
    rw [eN,decide_eq_true_eq] at h1
    obtain ⟨h2,h⟩:=aR h hr
    rw [AB,bT,bT] at h2
    obtain ⟨ds,h3,h⟩:=bO h hr
    rw [sT] at h3
    obtain ⟨key,rfl,h⟩:=bO h hr
    obtain ⟨h4,h⟩:=Lg hs h hr
    obtain ⟨m1,h,Ev⟩:=drop_ok hs h
    obtain ⟨m2,h,wV⟩:=push_ok Ev h
    rw [wD] at h
    simp only [wF] at h wV
    simp only [iM,if_pos h1]
    exact ⟨h2,ds,h3,_,h4,hP _ _ _ wV h⟩
  · obtain ⟨h1,h⟩:=aR h hr
    rw [eN,decide_eq_true_eq] at h1
    obtain ⟨h2,h⟩:=aR h hr
    rw [AB,bT] at h2
    obtain ⟨ds,h3,h⟩:=bO h hr
    rw [Bf,wF] at h3
    obtain ⟨es,h4,h⟩:=lZ hs h hr
    obtain ⟨h5,h⟩:=aR h hr
    rw [cL,bT] at h5
    simp only [bT,wD,pK,lY,qQ,b9,cL] at h
    simp only [iM,if_pos h1]
    refine ⟨h2,ds,h3,_,h4,?_⟩
    dsimp only
    rw [if_pos rfl]
    refine ⟨h5,?_⟩
    split at h
    · rename_i hc
      refine BD hc ?_
      obtain ⟨m1,h,Ev⟩:=set_ok hs h4 h
      exact hP _ _ _ Ev h
    · rename_i hc
      refine Ad (by simpa using hc) ?_
      obtain ⟨m1,h,Ev⟩:=drop_ok hs h
      obtain ⟨m2,h,wV⟩:=push_ok Ev h
      simp only [wF] at h wV
      exact hP _ _ _ wV h
omit hs in
theorem iBin_ok {op:BinOp} {kd AX:IntKind} {a c:Int} {k:V->Rz} (h:(ajG op).run kd AX a c k=r) (hP:∀ v,k v=r->P (v,st)):(dU op (.i kd a) (.i AX c) st).wp A P:=by
 have hk:∀ {X:Rz},bG (qZ kd AX) X=r->kd=AX/\X=r:=fun h=>by
  obtain ⟨h1,h2⟩:=aR h hr
  rw [g9,decide_eq_true_eq] at h1
  exact ⟨h1,h2⟩
 cases op with
 |shl=>
  obtain ⟨h1,h⟩:=aR h hr
  rw [fQ,q7] at h1
  rw [rY] at h
  exact ⟨by simpa using h1,sF (hP _ h)⟩
 |shr=>
  obtain ⟨h1,h⟩:=aR h hr
  rw [fQ,q7] at h1
  rw [rY] at h
  exact ⟨by simpa using h1,hP _ h⟩
 |quo=>
  obtain ⟨e,h2⟩:=hk h
  subst e
  obtain ⟨h1,h2⟩:=aR h2 hr
  rw [fQ,uK] at h1
  rw [rY] at h2
  simp only [dU,if_true]
  exact ⟨h1,sF (hP _ h2)⟩
 |rem=>
  obtain ⟨e,h2⟩:=hk h
  subst e
  obtain ⟨h1,h2⟩:=aR h2 hr
  rw [fQ,uK] at h1
  rw [rY] at h2
  simp only [dU,if_true]
  exact ⟨h1,hP _ h2⟩
 |add=>obtain ⟨e,h2⟩:=hk h;subst e;rw [rY,La,Qg] at h2;simp only [dU,if_true];exact sF (hP _ h2)
 |sub=>obtain ⟨e,h2⟩:=hk h;subst e;rw [rY,La,ae3] at h2;simp only [dU,if_true];exact sF (hP _ h2)
 |mul=>obtain ⟨e,h2⟩:=hk h;subst e;rw [rY,La,ae2] at h2;simp only [dU,if_true];exact sF (hP _ h2)
 |and=>obtain ⟨e,h2⟩:=hk h;subst e;rw [rY] at h2;simp only [dU,if_true];exact hP _ h2
 |or=>obtain ⟨e,h2⟩:=hk h;subst e;rw [rY] at h2;simp only [dU,if_true];exact hP _ h2
 |xor=>obtain ⟨e,h2⟩:=hk h;subst e;rw [rY] at h2;simp only [dU,if_true];exact hP _ h2
 |andNot=>obtain ⟨e,h2⟩:=hk h;subst e;rw [rY] at h2;simp only [dU,if_true];exact hP _ h2
 |eql=>obtain ⟨e,h2⟩:=hk h;subst e;rw [uK] at h2;simp only [dU,if_true];exact hP _ h2
 |neq=>obtain ⟨e,h2⟩:=hk h;subst e;rw [uK,fQ] at h2;simp only [dU,if_true];exact hP _ h2
 |lss=>obtain ⟨e,h2⟩:=hk h;subst e;rw [q7] at h2;simp only [dU,if_true];exact hP _ h2
 |leq=>obtain ⟨e,h2⟩:=hk h;subst e;rw [q7,fQ] at h2;simp only [dU,if_true];exact hP _ (by rw [<-h2];congr 2;by_cases hh:c<a<;>simp [hh]<;>omega)
 |gtr=>obtain ⟨e,h2⟩:=hk h;subst e;rw [q7] at h2;simp only [dU,if_true];exact hP _ h2
 |geq=>obtain ⟨e,h2⟩:=hk h;subst e;rw [q7,fQ] at h2;simp only [dU,if_true];exact hP _ (by rw [<-h2];congr 2;by_cases hh:a<c<;>simp [hh]<;>omega)
omit hs in
theorem sBin_ok {op:BinOp} {a c:List UInt8} {k:V->Rz} (h:(ajH op).run a c k=r) (hP:∀ v,k v=r->P (v,st)):(dU op (.s a) (.s c) st).wp A P:=by
 cases op
 case add=>
  obtain ⟨h1,h⟩:=aR h hr
  rw [cL,bT,bT,decide_eq_true_eq] at h1
  rw [wD] at h
  exact ⟨decide_eq_true (by show ((a.length+c.length:Nat):Int)<=9223372036854775807;have:a.length+c.length<=9223372036854775807:=h1;omega),hP _ h⟩
 case eql=>exact hP _ (by rw [<-h];show _=k (.b (ID a c));rw [q8])
 case neq=>exact hP _ (by rw [<-h];show _=k (.b (jF (ID a c)));rw [q8,fQ])
 case lss=>exact hP _ (by rw [<-h];show _=k (.b (Ow a c));rw [yW])
 case leq=>exact hP _ (by rw [<-h];show _=k (.b (aT (Ow a c) true (ID a c)));rw [yW,q8];cases Op.bytesLess a c<;>rfl)
 case gtr=>exact hP _ (by rw [<-h];show _=k (.b (jF (aT (Ow a c) true (ID a c))));rw [yW,q8,fQ];cases Op.bytesLess a c<;>rfl)
 case geq=>exact hP _ (by rw [<-h];show _=k (.b (jF (Ow a c)));rw [yW,fQ])
 all_goals exact absurd h.symm hr
omit hs in
theorem nil2_ok {neg:Bool} {x y:V} {k:V->Rz} (h:ae0 neg x y k=r) (hP:∀ v,k v=r->P (v,st)):(vU neg x y st).wp A P:=by
 unfold ae0 at h
 replace h:=ae9 h hr;rcases h with ⟨rfl,h⟩|⟨rfl,h⟩|⟨rfl,h⟩|⟨rfl,h⟩
 · replace h:=ae7 h hr;rcases h with ⟨rfl,h⟩|⟨a,b,rfl,h⟩|⟨a,b,c,d,rfl,h⟩
   · exact hP _ (by rw [<-h,fQ])
   · exact hP _ h
   · exact hP _ h
 · replace h:=pN h hr;rcases h with ⟨x,rfl,h⟩|⟨rfl,h⟩|⟨t,z,es,rfl,h⟩|⟨key,z,s,n,rfl,h⟩
   · exact absurd h.symm hr
   · exact hP _ (by rw [<-h,fQ])
   · cases t with
     |some a=>exact hP _ h
     |none=>
      cases es with
      |nil=>exact absurd h.symm hr
      |cons e q=>exact Ad rfl (hP _ h)
   · exact hP _ h
 · replace h:=DE h hr;rcases h with ⟨rfl,h⟩|⟨a,rfl,h⟩
   · exact hP _ (by rw [<-h,fQ])
   · exact hP _ h
 · replace h:=ae8 h hr;rcases h with ⟨rfl,h⟩|⟨a,b,c,rfl,h⟩
   · exact hP _ (by rw [<-h,fQ])
   · exact hP _ h
theorem callK_ok {rf:Rf} (hA:Ci rf A) {g:Nat} {vs:List V} {k:Kz} (h:K7 rf g vs m k=r) (hP:∀ v m' bA,fB m' bA->k v m'=r->P (v,bA)):A g vs st.g fun v h=>P (v,⟨h,st.l⟩):=by
 obtain ⟨gn,t,ln,l⟩:=m
 obtain ⟨h1,h2,h3,h4⟩:=hs
 replace h:Cz.rec (motive:=fun _=>Rz) .none (fun v m=>Mem.rec (motive:=fun _=>Rz) (fun gn g=>k v (.mk gn g ln l)) m) (rf g vs (.mk gn t))=r:=h
 cases hq:rf g vs (.mk gn t) with
 |none=>rw [hq] at h;exact absurd h.symm hr
 |some v m'=>
  rw [hq] at h
  refine hA _ _ _ _ _ hq st.g ⟨h1,h3⟩ _ fun h' hm=>?_
  obtain ⟨n',t'⟩:=m'
  exact hP _ _ _ ⟨hm.1,h2,hm.2,h4⟩ h
end
instance ajO (n:Nat):OfNat bH n:=⟨.t n⟩
abbrev kI (n:Int):bH:=.c (.i .i64 n)
abbrev kT:bH:=.c (.b true)
abbrev kF:bH:=.c (.b false)
abbrev vI (n:Int):V:=.i .i64 n
abbrev vS:V:=.s []
abbrev oO (d:Nat) (o:wT) (k:List Nat):cG:=⟨some d,o,none,k⟩
abbrev oM (d:Nat) (x:bH) (k:List Nat):cG:=⟨some d,.mv x,none,k⟩
abbrev oA (d:Nat) (x:bH) (k:List Nat):cG:=⟨some d,.Ue x,none,k⟩
abbrev oN (o:wT) (k:List Nat):cG:=⟨none,o,none,k⟩
abbrev oG (d:Nat) (o:wT) (t:Nat) (k:List Nat):cG:=⟨some d,o,some (t,true),k⟩
abbrev rR (l:List cG):AC:=.EF l
abbrev rS (l:List cG) (c:AC):AC:=.seq (.EF l) c
abbrev oL (d s:Nat):cG:=oO d (.load none (.t s)) [s]
abbrev oK (d s:Nat):cG:=oO d (.load none (.t s)) []
abbrev oF (d f s:Nat):cG:=oO d (.oW f (.t s)) []
abbrev oE (d f s:Nat):cG:=oO d (.oW f (.t s)) [s]
abbrev oP (d s:Nat):cG:=oM d (.t s) []
abbrev oQ (d s:Nat):cG:=oM d (.t s) [s]
abbrev oB (d s:Nat):cG:=oA d (.t s) [s]
abbrev dq (i:Nat) (o:cG):aO:=⟨i,o,false,[]⟩
abbrev oX (d s i:Nat):cG:=oO d (.ext (.t s) i) []
end Go.Eng
