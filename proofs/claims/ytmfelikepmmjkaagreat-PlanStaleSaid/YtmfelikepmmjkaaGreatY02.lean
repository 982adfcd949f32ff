/-
Each operation of the model does what the abstract step says (part five: new objects).
-/
import Derived.Test.YtmfelikepmmjkaaGreatY01
set_option linter.unusedVariables false
set_option linter.unusedSimpArgs false
namespace Go.Eng
open Go
structure p9 (w w':World):Prop where
 os:w'.os=w.os
 out:w'.output=w.output
 tape:w'.tape=w.tape
theorem Env.Ig (E:Env) (g g':Bool) (L:Loc) (J:zA):(E.H2 g').Le ((E.push g L J).H2 g'):=by
 cases g' with
 |true=>exact Env.CZ (Env.p7 E g L J)
 |false=>exact Env.p7 E g L J
theorem Env.FE (E F:Env) (g:Bool):F.at (E.aL g)=F.H2 g:=by cases g<;>rfl
section
variable {E:Env} {st:St} {w w':World}
theorem b9.newRow {z:Nat} (h:b9 E st w) (gone:Option Key) (g:Bool) {cells:Array Value} {t:TypeId} {fz:Nat×Nat} (Kc:sC z fz cells.size) (hh:w'.heap=w.heap.push (.cells cells t fz)) (ho:p9 w w')
 (ob:Obj) (cs:List V) (eC:∀ F (L:Loc),L.base=0->gR z F w' L cs->Holds F w' L ob) (hl:cs.length<=cells.size)
 (hr:∀ (j:Nat) (v:V),cs[j]? =some v->∃ x,cells[j]? =some x/\Rel (E.H2 g) v x/\x.oneCell'=true):
 ∃ E',b9 E' ((match gone with|some k=>st.remove k|none=>st).push g ob) w'/\Ext E st w E' ((match gone with|some k=>st.remove k|none=>st).push g ob) w'/\
  E'.has (st.aL g)/\E'.μ (st.aL g)=⟨w.heap.size,0,cells.size⟩:=by
 have dH:gR z ((E.push g ⟨w.heap.size,0,cells.size⟩ fun b j=>if b=w.heap.size then (fun _=>none) j else none).at (E.aL g)) w' ⟨w.heap.size,0,cells.size⟩ cs:=by
  refine ⟨cells,t,fz,by simp [hh],Kc,by simpa using hl,Nat.le_refl _,fun j v hj=>?_⟩
  obtain ⟨x,hx,vM,h1⟩:=hr j v hj
  refine ⟨x,by simpa using hx,?_,h1⟩
  rw [Env.FE]
  exact vM.mono (Env.Ig _ _ _ _ _)
 obtain ⟨h1,h2⟩:=h.fresh gone g 0 cells.size (fun _=>none) ob _ hh ho.os ho.out ho.tape (fun j x hx=>by cases hx) (eC _ _ rfl dH)
 refine ⟨_,h1,h2,?_,?_⟩
 · rw [h.aL];exact Env.eU _ _ _ _
 · rw [h.aL];exact Env.fL _ _ _ _
theorem b9.Vu {z:Nat} (h:b9 E st w) (gone:Option Key) (g:Bool) {cells:Array Value} {t:TypeId} {fz:Nat×Nat} (Kc:sC z fz cells.size) (hh:w'.heap=w.heap.push (.cells cells t fz)) (ho:p9 w w')
 (n:Nat) (hn:n<=cells.size):
 ∃ E',b9 E' ((match gone with|some k=>st.remove k|none=>st).push g .spare) w'/\Ext E st w E' ((match gone with|some k=>st.remove k|none=>st).push g .spare) w'/\
  E'.has (st.aL g)/\E'.μ (st.aL g)=⟨w.heap.size,n,cells.size⟩/\∀ j,j<n->E'.I w.heap.size j=cells[j]? :=by
 have hold:∀ j,E.I w.heap.size j=none:=by
  intro j
  cases hI:E.I w.heap.size j with
  |none=>rfl
  |some x=>have:=h.jL _ _ _ hI;simp [bI] at this
 have dH:gR 1 ((E.push g ⟨w.heap.size,n,cells.size⟩ fun b j=>if b=w.heap.size then (fun j=>if j<n then cells[j]? else none) j else none).at (E.aL g)) w' ⟨w.heap.size,n,cells.size⟩ []:=
  ⟨cells,t,fz,by simp [hh],Kc.one,by simpa using hn,Nat.le_refl _,fun j v hj=>by simp at hj⟩
 obtain ⟨h1,h2⟩:=h.fresh gone g n cells.size (fun j=>if j<n then cells[j]? else none) .spare _ hh ho.os ho.out ho.tape (fun j x hx=>by
  split at hx
  · exact ⟨⟨_,_,_,rfl,hx⟩,by omega⟩
  · cases hx) dH
 refine ⟨_,h1,h2,?_,?_,?_⟩
 · rw [h.aL];exact Env.eU _ _ _ _
 · rw [h.aL];exact Env.fL _ _ _ _
 · intro j hj
   simp [Env.push,hold,hj]
theorem b9.Vv (h:b9 E st w) (g:Bool) (kd:Option IntKind):∃ E',b9 E' (st.push g (.mp kd [])) (w.alloc (.map #[] 0))/\Ext E st w E' (st.push g (.mp kd [])) (w.alloc (.map #[] 0))/\
 E'.has (st.aL g)/\(E'.μ (st.aL g)).bL=w.heap.size:=by
 obtain ⟨h1,h2⟩:=h.fresh (w':=w.alloc (.map #[] 0)) none g 0 0 (fun _=>none) (.mp kd []) (.map #[] 0) rfl rfl rfl rfl (fun j x hx=>by cases hx)
  ⟨#[],0,(by show (w.heap.push _)[w.heap.size]? =_;simp),rfl,(fun j q e hq=>by simp at hq),⟨fun x hx=>by simp at hx,by simp⟩⟩
 refine ⟨_,h1,h2,?_,?_⟩
 · rw [h.aL];exact Env.eU _ _ _ _
 · rw [h.aL];rw [Env.fL]
end
def kZ (P:Program) (t:TypeId) (zs:List V):Bool:=
 match P.info? t with
 |some i=>match i.zero with
  |some z=>decide (z.cells.size=zs.length)&&decide (i.size=zs.length)&&z.cells.all (·.oneCell')&&(z.cells.toList.zip zs).all fun q=>p8 4 q.1 q.2
  |none=>false
 |none=>false
theorem jA {P:Program} {t:TypeId} {zs:List V} (h:kZ P t zs=true):
 ∃ i z,P.info? t=some i/\i.zero=some z/\i.size=zs.length/\(∀ E,eI E zs z.cells)/\z.cells.size=zs.length/\∀ (j:Nat) (x:Value),z.cells[j]? =some x->x.oneCell'=true:=by
 unfold kZ at h
 split at h
 · rename_i i hi
   split at h
   · rename_i z hz
     simp only [Bool.and_eq_true,decide_eq_true_eq] at h
     refine ⟨i,z,hi,hz,h.1.1.2,fun E=>⟨h.1.1.1,fun j v x hj hx=>kO (GL h.2 (by rw [Array.getElem?_toList];exact hx) hj) E⟩,h.1.1.1,?_⟩
     intro j x hx
     exact (Array.all_eq_true_iff_forall_mem.1 h.1.2) x (Array.mem_of_getElem? hx)
   · cases h
 · cases h
theorem mO {P:Program} {t:TypeId} {i:TypeInfo} {z:Value} (hi:P.info? t=some i) (hz:i.zero=some z) (w:World):(zeroValue t).run P w=.ok z w:=by
 simp [zeroValue,typeInfo,hi,hz]
section
variable {P:Program} {o:Oper} {a:Act} {E:Env} {N:Nat} {st:St} {w:World} {fr:Fr} {next:Act->World->Prop} {Q:Exit->Act->World->Prop} {K:R->Prop}
theorem Kw {t:TypeId} {g:Bool} {zero:List V} (ho:o.op=.alloc t) (hz:kZ P t zero=true) (hs:b9 E st w)
 (hw:(step (.alloc g zero) fr st).wp (aB P) K) (hc:fG E st w o a next K):o.wp P a w next Q:=by
 obtain ⟨i,z,hi,C6,kD,hr,hl,h1⟩:=jA hz
 obtain ⟨E',s1,s2,s3,s4⟩:=hs.newRow (z:=1) (w':=w.alloc (.cells z.cells t)) none g (.inl rfl) rfl ⟨rfl,rfl,rfl⟩ (.cs zero) zero (fun _ _ h0 h=>⟨h0,h⟩) (by omega)
  (fun j v hj=>let ⟨x,hx,vM⟩:=(hr (E.H2 g)).get hj;⟨x,hx,vM,h1 j x hx⟩)
 refine aT (x:=.pointer (some ⟨w.heap.size,0,none⟩)) ?_ (hc _ _ E' _ _ hw s1 s2 ?_)
 · simp [execOp,ho,Instr.alloc,mO hi C6,newVar,newRow]
 · have:=Rel.p (E:=E') (st.aL g) 0 s3
   rw [s4] at this
   exact this
theorem Pu {t:TypeId} {x:Operand} {d:bH} {g:Bool} (ho:o.op=.box t x) (hx:dY x d=true) (hs:b9 E st w) (hf:aY E N fr a)
 (hw:(step (.box g d) fr st).wp (aB P) K) (hc:fG E st w o a next K):o.wp P a w next Q:=by
 have h1:=bA hx hf
 simp only [step] at hw
 split at hw
 case h_2=>exact hw.elim
 rename_i Vs
 unfold T.opt at hw
 split at hw
 case h_2=>exact hw.elim
 rename_i c xZ
 obtain ⟨nC,iD⟩:=AQ Vs h1
 have wN:=tW xZ nC
 have kD:(a.eval x).cells.size=c.length:=wN.1
 obtain ⟨E',s1,s2,s3,s4⟩:=hs.newRow (w':=w.alloc (.cells (a.eval x).cells t)) none g (.inl rfl) rfl ⟨rfl,rfl,rfl⟩ (.cs c) c (fun _ _ h0 h=>⟨h0,h⟩) (by omega)
  (fun j v hj=>let ⟨x,hx,vM⟩:=wN.get hj;⟨x,hx,vM,iD x (by rw [Array.mem_toList_iff];exact Array.mem_of_getElem? hx)⟩)
 refine aT (x:=.pointer (some ⟨w.heap.size,0,none⟩)) ?_ (hc _ _ E' _ _ hw s1 s2 ?_)
 · simp [execOp,ho,Instr.box,newVar,newRow]
 · have:=Rel.p (E:=E') (st.aL g) 0 s3
   rw [s4] at this
   exact this
theorem Kx {t:TypeId} {g:Bool} {kd:Option IntKind} (ho:o.op=.makeMap t none) (hs:b9 E st w)
 (hw:(step (.CY g kd) fr st).wp (aB P) K) (hc:fG E st w o a next K):o.wp P a w next Q:=by
 obtain ⟨E',s1,s2,s3,s4⟩:=hs.Vv g kd
 refine aT (x:=.map (some w.heap.size)) ?_ (hc _ _ E' _ _ hw s1 s2 ?_)
 · simp [execOp,ho,Instr.makeMap]
 · have:=Rel.m (E:=E') (st.aL g) s3
   rw [s4] at this
   exact this
def vP (P:Program) (fs:Array Field):List (Nat×Operand)->List (Nat×Nat×bH)->Bool
 |[],[]=>true
 |(i,x)::r,(off,sz,d)::q=>(match fs[i]? with
    |some f=>decide (f.offset=off)&&(P.info? f.type).map (·.size)==some sz
    |none=>false)&&dY x d&&vP P fs r q
 |_,_=>false
def qX (sz:Nat):List (Nat×Operand)->List (Nat×Nat×bH)->Bool
 |[],[]=>true
 |(i,x)::r,(off,dS,d)::q=>decide (off=i*sz)&&decide (dS=sz)&&dY x d&&qX sz r q
 |_,_=>false
theorem FF (cs:Array Value) (off:Nat):∀ (l:List Value) (k:Nat) (acc:Array Value),(l.zipIdx k).foldl (fun (cs:Array Value) (q:Value×Nat)=>cs.setIfInBounds (off+q.2) q.1) acc=qW acc (off+k) l
 |[],_,_=>rfl
 |v::r,k,acc=>by
  rw [List.zipIdx_cons,List.foldl_cons,FF cs off r]
  rfl
theorem Pv (v:Array Value) (off:Nat) (acc:Array Value):v.zipIdx.foldl (fun (cs:Array Value) (q:Value×Nat)=>cs.setIfInBounds (off+q.2) q.1) acc=qW acc off v.toList:=by
 rw [<-Array.foldl_toList,Array.toList_zipIdx,FF acc off v.toList 0 acc,Nat.add_zero]
theorem Ye {cs:List V} {xs:Array Value} (hr:eI E cs xs) (h1:∀ (j:Nat) (x:Value),xs[j]? =some x->x.oneCell'=true) {off:Nat} {vs:List V} {ys:Array Value} (hv:eI E vs ys) (hy:∀ y∈ys.toList,y.oneCell'=true)
 (eB:off+vs.length<=cs.length):eI E (dI cs off vs) (qW xs off ys.toList)/\∀ (j:Nat) (x:Value),(qW xs off ys.toList)[j]? =some x->x.oneCell'=true:=by
 have hl:ys.toList.length=vs.length:=by simpa using hv.1
 have hs:=hr.1
 refine ⟨⟨by rw [iX,iY,hs],fun j v x hj hx=>?_⟩,fun j x hx=>?_⟩
 · rw [iZ _ _ _ _ eB] at hj
   rw [lY _ _ _ _ (by omega)] at hx
   by_cases hc:off<=j/\j<off+vs.length
   · rw [if_pos hc] at hj
     rw [if_pos (by omega)] at hx
     exact hv.2 _ v x hj (by simpa using hx)
   · rw [if_neg hc] at hj
     rw [if_neg (by omega)] at hx
     exact hr.2 _ v x hj hx
 · rw [lY _ _ _ _ (by omega)] at hx
   by_cases hc:off<=j/\j<off+ys.toList.length
   · rw [if_pos hc] at hx
     exact hy x (List.mem_of_getElem? hx)
   · rw [if_neg hc] at hx
     exact h1 j x hx
theorem C7 (place:Nat->Option (Nat×Nat)):∀ (_ps:List (Nat×V)) (qs:List (Nat×Nat×V)) (xs:List (Nat×Value)) (cs Ns:List V) (ys:Array Value),
 kM cs qs=some Ns->eI E cs ys->(∀ (j:Nat) (x:Value),ys[j]? =some x->x.oneCell'=true)->
 qs.length=xs.length->(∀ (j:Nat) (q:Nat×Nat×V) (x:Nat×Value),qs[j]? =some q->xs[j]? =some x->place x.1=some (q.1,q.2.1)/\Rel E q.2.2 x.2)->
 ∃ zs,Instr.fill place ys xs=some zs/\eI E Ns zs/\∀ (j:Nat) (x:Value),zs[j]? =some x->x.oneCell'=true:=by
 intro ps qs
 induction qs with
 |nil=>
  intro xs cs Ns ys h hr h1 hl _
  simp only [kM,Option.some.injEq] at h
  subst h
  have:xs=[]:=List.eq_nil_of_length_eq_zero hl.symm
  subst this
  exact ⟨ys,rfl,hr,h1⟩
 |cons q r ih=>
  obtain ⟨off,sz,v⟩:=q
  intro xs cs Ns ys h hr h1 hl hp
  match xs,hl with
  |(i,x)::xr,hl=>
  simp only [kM] at h
  split at h
  case isFalse=>cases h
  rename_i hc
  obtain ⟨vO,kD,eB⟩:=hc
  obtain ⟨Ct,wN⟩:=hp 0 _ _ rfl rfl
  obtain ⟨nC,iD⟩:=AQ vO wN
  have Nt:x.cells.size=sz:=by rw [nC.1];exact kD
  have hys:ys.size=cs.length:=hr.1
  obtain ⟨Cu,Vw⟩:=Ye hr h1 nC iD (off:=off) (by omega)
  obtain ⟨zs,FD,H0,Vx⟩:=ih xr _ Ns _ h Cu Vw (by simpa using hl) (fun j q y hq hy=>hp (j+1) q y (by simpa using hq) (by simpa using hy))
  refine ⟨zs,?_,H0,Vx⟩
  simp only at Ct
  simp only [Instr.fill,Ct]
  rw [if_neg (by simp [Nt];omega)]
  rw [<-FD]
  congr 1
  exact Pv _ _ _
theorem xA {fs:Array Field} (hf:aY E N fr a):∀ {ps:List (Nat×Operand)} {qs:List (Nat×Nat×bH)},vP P fs ps qs=true->
 (dT fr qs).length=ps.length/\∀ (j:Nat) (q:Nat×Nat×V) (p:Nat×Operand),(dT fr qs)[j]? =some q->ps[j]? =some p->(∃ f:Field,fs[p.1]? =some f/\f.offset=q.1/\(P.info? f.type).map (·.size)=some q.2.1)/\Rel E q.2.2 (a.eval p.2)
 |[],[],_=>⟨rfl,fun j q p hq=>by simp [dT] at hq⟩
 |(i,x)::r,(off,sz,d)::q,h=>by
  simp only [vP,Bool.and_eq_true] at h
  obtain ⟨⟨h1,h2⟩,h3⟩:=h
  obtain ⟨l1,l2⟩:=xA hf h3
  refine ⟨by simp [dT,l1],fun j y p hy hp=>?_⟩
  cases j with
  |zero=>
   simp [dT] at hy hp
   subst hy;subst hp
   refine ⟨?_,bA h2 hf⟩
   split at h1
   · rename_i f Fa
     simp only [Bool.and_eq_true,decide_eq_true_eq,beq_iff_eq] at h1
     exact ⟨f,Fa,h1.1,h1.2⟩
   · cases h1
  |succ j=>exact l2 j y p (by simpa [dT] using hy) (by simpa using hp)
 |[],_::_,h=>by cases h
 |(_,_)::_,[],h=>by simp [vP] at h
theorem tX {sz:Nat} (hf:aY E N fr a):∀ {ps:List (Nat×Operand)} {qs:List (Nat×Nat×bH)},qX sz ps qs=true->
 (dT fr qs).length=ps.length/\∀ (j:Nat) (q:Nat×Nat×V) (p:Nat×Operand),(dT fr qs)[j]? =some q->ps[j]? =some p->(q.1=p.1*sz/\q.2.1=sz)/\Rel E q.2.2 (a.eval p.2)
 |[],[],_=>⟨rfl,fun j q p hq=>by simp [dT] at hq⟩
 |(i,x)::r,(off,dS,d)::q,h=>by
  simp only [qX,Bool.and_eq_true,decide_eq_true_eq] at h
  obtain ⟨⟨⟨h0,h1⟩,h2⟩,h3⟩:=h
  obtain ⟨l1,l2⟩:=tX hf h3
  refine ⟨by simp [dT,l1],fun j y p hy hp=>?_⟩
  cases j with
  |zero=>
   simp [dT] at hy hp
   subst hy;subst hp
   exact ⟨⟨h0,h1⟩,bA h2 hf⟩
  |succ j=>exact l2 j y p (by simpa [dT] using hy) (by simpa using hp)
 |[],_::_,h=>by cases h
 |(_,_)::_,[],h=>by simp [qX] at h
theorem mapM_ok {α β:Type} {f:α->Sem β} {g:α->β}:∀ (l:List α),(∀ x∈l,(f x).run P w=.ok (g x) w)->(l.mapM f).run P w=.ok (l.map g) w
 |[],_=>rfl
 |x::r,h=>by
  have h1:=h x (.head _)
  have h2:=mapM_ok r (fun y hy=>h y (.tail _ hy))
  rw [List.mapM_cons]
  simp only [Sem.run_bind,h1,h2,Result.andThen_ok,Sem.run_pure,List.map_cons]
theorem Pw {α β:Type} {f:α->Sem β} {g:α->β} (l:Array α) (h:∀ x∈l.toList,(f x).run P w=.ok (g x) w):(l.mapM f).run P w=.ok (l.map g) w:=by
 have:=mapM_ok (P:=P) (w:=w) l.toList h
 cases l with
 |mk l=>
  rw [List.mapM_toArray]
  simp only at this
  rw [map_eq_pure_bind]
  simp only [Sem.run_bind,this,Result.andThen_ok,Sem.run_pure]
  simp
theorem Ky {t:TypeId} {ps:Array (Nat×Operand)} {qs:List (Nat×Nat×bH)} {zero:List V} {fs:Array Field} (ho:o.op=.build t ps) (hz:kZ P t zero=true) (hu:P.underlying t=some (.struct fs))
 (eV:(fs.toList.all fun f=>(P.info? f.type).isSome)=true) (hp:vP P fs ps.toList qs=true) (hs:b9 E st w) (hf:aY E N fr a)
 (hw:(step (.Sa zero qs) fr st).wp (aB P) K) (hc:fG E st w o a next K):o.wp P a w next Q:=by
 obtain ⟨i,z,hi,C6,kD,hr,hl,h1⟩:=jA hz
 simp only [step] at hw
 unfold T.opt at hw
 split at hw
 case h_2=>exact hw.elim
 rename_i Ns XB
 obtain ⟨l1,l2⟩:=xA (P:=P) hf hp
 obtain ⟨zs,FD,H0,Vx⟩:=C7 (E:=E) (fun k=>(fs.map fun f=>(f.offset,P.cellsOf f.type))[k]?) [] (dT fr qs) (ps.toList.map fun q=>(q.1,a.eval q.2)) zero Ns z.cells XB (hr E) h1 (by simp [l1]) (fun j q x hq hx=>by
  rw [List.getElem?_map] at hx
  cases Px:ps.toList[j]? with
  |none=>rw [Px] at hx;cases hx
  |some p=>
   rw [Px] at hx
   simp only [Option.map_some,Option.some.injEq] at hx
   subst hx
   obtain ⟨⟨f,Fa,Kt,SN⟩,gI⟩:=l2 j q p hq Px
   refine ⟨?_,gI⟩
   simp only [Array.getElem?_map,Fa,Option.map_some,Program.cellsOf,Kt]
   cases hq2:P.info? f.type with
   |none=>simp [hq2] at SN
   |some i2=>
    simp [hq2] at SN
    simp [SN])
 have hm:(fs.mapM fun f=>do pure (f.offset,<-sizeOf f.type):Sem (Array (Nat×Nat))).run P w=.ok (fs.map fun f=>(f.offset,P.cellsOf f.type)) w:=by
  refine Pw fs fun f Ur=>?_
  have:=List.all_eq_true.1 eV f Ur
  obtain ⟨i2,L8⟩:=Option.isSome_iff_exists.1 this
  simp [sizeOf,typeInfo,L8,Program.cellsOf]
 refine aT (x:=.agg zs) ?_ (hc.same hs hw (.agg _ _ H0.1 Vx H0.2))
 have GO:(ps.map fun (q:Nat×Operand)=>(q.1,a.eval q.2)).toList=ps.toList.map fun q=>(q.1,a.eval q.2):=by simp
 simp only [execOp,ho,Instr.build,Sem.run_bind,mO hi C6,run_underlying hu,Result.andThen_ok,hm]
 simp only [GO,FD,Sem.run_pure,Result.andThen_ok]
theorem Kz {t e:TypeId} {n sz:Nat} {ps:Array (Nat×Operand)} {qs:List (Nat×Nat×bH)} {zero:List V} (ho:o.op=.build t ps) (hz:kZ P t zero=true) (hu:P.underlying t=some (.array n e))
 (Py:(P.info? e).map (·.size)=some sz) (hp:qX sz ps.toList qs=true) (hs:b9 E st w) (hf:aY E N fr a)
 (hw:(step (.Sa zero qs) fr st).wp (aB P) K) (hc:fG E st w o a next K):o.wp P a w next Q:=by
 obtain ⟨i,z,hi,C6,kD,hr,hl,h1⟩:=jA hz
 simp only [step] at hw
 unfold T.opt at hw
 split at hw
 case h_2=>exact hw.elim
 rename_i Ns XB
 obtain ⟨l1,l2⟩:=tX hf hp
 obtain ⟨zs,FD,H0,Vx⟩:=C7 (E:=E) (fun k=>some (k*sz,sz)) [] (dT fr qs) (ps.toList.map fun q=>(q.1,a.eval q.2)) zero Ns z.cells XB (hr E) h1 (by simp [l1]) (fun j q x hq hx=>by
  rw [List.getElem?_map] at hx
  cases Px:ps.toList[j]? with
  |none=>rw [Px] at hx;cases hx
  |some p=>
   rw [Px] at hx
   simp only [Option.map_some,Option.some.injEq] at hx
   subst hx
   obtain ⟨⟨Kt,SN⟩,gI⟩:=l2 j q p hq Px
   exact ⟨by simp [Kt,SN],gI⟩)
 cases hq:P.info? e with
 |none=>simp [hq] at Py
 |some i2=>
 have L8:i2.size=sz:=by simpa [hq] using Py
 refine aT (x:=.agg zs) ?_ (hc.same hs hw (.agg _ _ H0.1 Vx H0.2))
 have GO:(ps.map fun (q:Nat×Operand)=>(q.1,a.eval q.2)).toList=ps.toList.map fun q=>(q.1,a.eval q.2):=by simp
 simp only [execOp,ho,Instr.build,Sem.run_bind,mO hi C6,run_underlying hu,Result.andThen_ok]
 simp only [sizeOf,typeInfo,program,GO]
 simp [FD,Sem.run,hq,L8]
end
open Go
theorem zF {E:Env} {v d:V} {x:Value} (h:v.deep=some d) (hr:Rel E v x):eT E.I d x:=by
 unfold V.deep at h
 split at h<;>simp only [Option.some.injEq,reduceCtorEq] at h<;>subst h
 all_goals (cases hr)
 all_goals (first|assumption|skip)
 all_goals (rename_i hd;first|exact hd|(cases hd<;>first|exact .mS _|exact .Kp _ _ ‹_›|exact .sl _ _ _ _ _ _ ‹_› ‹_› ‹_› ‹_›))
theorem zG:∀ {l r l' r':List V},pW l=some l'->pW r=some r'->pW (l++r)=some (l'++r')
 |[],r,l',r',h,g=>by simp only [pW,Option.some.injEq] at h;subst h;exact g
 |v::l,r,l',r',h,g=>by
  simp only [pW] at h
  split at h
  · rename_i x y hx hy
    simp only [Option.some.injEq] at h
    subst h
    simp only [List.cons_append,pW,hx,zG hy g]
  · cases h
theorem mB:∀ {l l':List V},pW l=some l'->l'.length=l.length/\∀ (j:Nat) (d:V),l'[j]? =some d->∃ v,l[j]? =some v/\v.deep=some d
 |[],l',h=>by simp only [pW,Option.some.injEq] at h;subst h;exact ⟨rfl,fun j d hd=>by simp at hd⟩
 |v::l,l',h=>by
  simp only [pW] at h
  split at h
  · rename_i x y hx hy
    simp only [Option.some.injEq] at h
    subst h
    obtain ⟨h1,h2⟩:=mB hy
    refine ⟨by simp [h1],fun j d hd=>?_⟩
    cases j with
    |zero=>simp at hd;subst hd;exact ⟨v,rfl,hx⟩
    |succ j=>exact h2 j d (by simpa using hd)
  · cases h
theorem jB:∀ {es ds:List (List V)},dR es=some ds->pW es.flatten=some ds.flatten/\ds.length=es.length/\∀ {sz:Nat},(∀ e∈es,e.length=sz)->∀ e∈ds,e.length=sz
 |[],ds,h=>by simp only [dR,Option.some.injEq] at h;subst h;exact ⟨rfl,rfl,fun _ e he=>by cases he⟩
 |e::es,ds,h=>by
  simp only [dR] at h
  split at h
  · rename_i x y hx hy
    simp only [Option.some.injEq] at h
    subst h
    obtain ⟨h1,h2,h3⟩:=jB hy
    refine ⟨zG hx h1,by simp [h2],fun hl d hd=>?_⟩
    cases hd with
    |head=>rw [(mB hx).1];exact hl e (.head _)
    |tail _ hd=>exact h3 (fun d hd=>hl d (.tail _ hd)) d hd
  · cases h
theorem xB:∀ {l r l' r':List V},gK l=some l'->gK r=some r'->gK (l++r)=some (l'++r')
 |[],r,l',r',h,g=>by simp only [gK,Option.some.injEq] at h;subst h;exact g
 |v::l,r,l',r',h,g=>by
  simp only [gK] at h
  split at h
  · rename_i x y hx hy
    simp only [Option.some.injEq] at h
    subst h
    simp only [List.cons_append,gK,hx,xB hy g]
  · cases h
theorem C8:∀ {l l':List V},gK l=some l'->l'.length=l.length
 |[],l',h=>by simp only [gK,Option.some.injEq] at h;subst h;rfl
 |v::l,l',h=>by
  simp only [gK] at h
  split at h
  · rename_i x y hx hy
    simp only [Option.some.injEq] at h
    subst h
    simp [C8 hy]
  · cases h
theorem C9 {g:Bool} {l l':List V} (h:sA g l=some l'):l'.length=l.length:=by
 cases g with
 |true=>exact C8 h
 |false=>simp only [sA,Option.some.injEq] at h;rw [h]
theorem mP {g:Bool}:∀ {es ds:List (List V)},gL g es=some ds->sA g es.flatten=some ds.flatten/\ds.length=es.length/\∀ {sz:Nat},(∀ e∈es,e.length=sz)->∀ e∈ds,e.length=sz
 |[],ds,h=>by simp only [gL,Option.some.injEq] at h;subst h;cases g<;>exact ⟨rfl,rfl,fun _ e he=>by cases he⟩
 |e::es,ds,h=>by
  simp only [gL] at h
  split at h
  · rename_i x y hx hy
    simp only [Option.some.injEq] at h
    subst h
    obtain ⟨h1,h2,h3⟩:=mP hy
    refine ⟨?_,by simp [h2],fun hl d hd=>?_⟩
    · cases g with
      |true=>exact xB hx h1
      |false=>simp only [sA,Option.some.injEq] at hx h1 ⊢;simp [hx,h1]
    · cases hd with
      |head=>rw [C9 hx];exact hl e (.head _)
      |tail _ hd=>exact h3 (fun d hd=>hl d (.tail _ hd)) d hd
  · cases h
def iK (E:Env) (cs:List V) (xs:List Value):Prop:=∀ (j:Nat) (v:V),cs[j]? =some v->∃ x,xs[j]? =some x/\Rel E v x/\x.oneCell'=true
def mC (I:zA) (cs:List V) (xs:List Value):Prop:=∀ (j:Nat) (v:V),cs[j]? =some v->∃ x,xs[j]? =some x/\eT I v x
theorem mC.mono {I J:zA} (h:∀ b o x,I b o=some x->J b o=some x) {cs:List V} {xs:List Value} (hr:mC I cs xs):mC J cs xs:=
 fun j v hj=>let ⟨x,a,c⟩:=hr j v hj;⟨x,a,c.mono h⟩
section
variable {P:Program} {o:Oper} {a:Act} {E:Env} {N:Nat} {st:St} {w w':World} {fr:Fr} {next:Act->World->Prop} {Q:Exit->Act->World->Prop} {K:R->Prop}
theorem Da {z:Nat} (hs:b9 E st w) (gone:Option Key) (g:Bool) {cells:Array Value} {t:TypeId} {fz:Nat×Nat} (Kc:sC z fz cells.size) (hh:w'.heap=w.heap.push (.cells cells t fz)) (ho:p9 w w')
 {sz cap:Nat} {ds:List (List V)} (hl:∀ e∈ds,e.length=sz) (AR:cells.size=cap*sz) (hc:ds.length<=cap) (hr:mC E.I ds.flatten cells.toList):
 ∃ E',b9 E' ((match gone with|some k=>st.remove k|none=>st).push g .spare) w'/\Ext E st w E' ((match gone with|some k=>st.remove k|none=>st).push g .spare) w'/\
  Rel E' (.sl (some (st.aL g)) sz ds) (.slice (some ⟨w.heap.size,0,none⟩) ds.length cap):=by
 have vL:=cU hl
 have hle:ds.length*sz<=cells.size:=by rw [AR];exact Nat.mul_le_mul_right _ hc
 obtain ⟨E',s1,s2,s3,s4,s5⟩:=hs.Vu gone g Kc hh ho (ds.length*sz) hle
 refine ⟨E',s1,s2,?_⟩
 have Cu:=hr.mono s2.le.jL
 refine .EW _ _ _ _ _ s3 (.sl sz ds w.heap.size 0 cap (fun j=>cells.toList.getD j default) hc hl (fun j d hj=>?_) (fun j d hj=>?_)) (by rw [s4];exact ⟨rfl,rfl⟩) (.inr ?_)
 · have cL:j<ds.length*sz:=by rw [<-vL];exact (List.getElem?_eq_some_iff.1 hj).1
   rw [Nat.zero_add,s5 j cL]
   have:j<cells.size:=by omega
   simp [this]
 · obtain ⟨x,hx,vM⟩:=Cu j d hj
   simp only [List.getD_eq_getElem?_getD,hx]
   exact vM
 · rw [s4];simp [AR]
theorem Pz {z:Nat} (hs:b9 E st w) {cells:Array Value} {t:TypeId} {fz:Nat×Nat} (Kc:sC z fz cells.size) (hh:w'.heap=w.heap.push (.cells cells t fz)) (ho:p9 w w')
 {sz cap:Nat} {ds:List (List V)} (hl:∀ e∈ds,e.length=sz) (AR:cells.size=cap*sz) (hc:ds.length<=cap) (hr:mC E.I ds.flatten cells.toList):
 ∃ E',b9 E' st w'/\Ext E st w E' st w'/\Rel E' (.sl none sz ds) (.slice (some ⟨w.heap.size,0,none⟩) ds.length cap):=by
 obtain ⟨E',s1,s2,s3⟩:=Da hs none false Kc hh ho hl AR hc hr
 dsimp only at s1 s2
 have Yf:∀ k,st.live k->(st.push false .spare).live k:=by
  rintro k ⟨o,hk⟩
  refine ⟨o,?_⟩
  rw [St.j4,if_neg,hk]
  intro e
  have:=hs.jM k ⟨o,hk⟩
  rw [e,hs.aL] at this
  exact Env.kX E false this
 have hle:E.Le { E' with nl:=E.nl }:=⟨s2.le.jL,s2.le.ng,Nat.le_refl _,s2.le.loc⟩
 have j6:∀ k,st.live k->w'.heap[(E.μ k).bL]? =w.heap[(E.μ k).bL]? :=fun k hk=>by
  rw [hh,Array.getElem?_push,if_neg (Nat.ne_of_lt (hs.lt hk))]
 refine ⟨{ E' with nl:=E.nl },⟨?_,hs.nl,fun k hk=>hle.has (hs.jM k hk),s1.jL,fun k o hk=>?_,fun k k' hk hZ dM=>?_,fun k hk=>s1.own k (Yf k hk)⟩,
  ⟨hle,s2.size,s2.fF,fun k hk _=>hk,fun k hk hn=>absurd (hs.jM k hk) hn,s2.same,s2.os,s2.out,s2.tape⟩,?_⟩
 · have:=s1.ng
   simpa [St.push] using this
 · have:=(hs.obj k o hk).eK (Env.iJ hle k) (j6 k ⟨o,hk⟩)
   rw [show ({ E' with nl:=E.nl }:Env).μ k=E.μ k from hle.loc k (hs.jM k ⟨o,hk⟩)]
   exact this
 · rw [hle.loc k (hs.jM k hk),hle.loc k' (hs.jM k' hZ)]
   exact hs.sep k k' hk hZ dM
 · cases s3 with
   |deep hd=>cases hd
   |EW _ _ _ _ _ hk hd=>exact .deep hd
theorem Ih {sz:Nat} (hs:b9 E st w) (gone:Option Key) (g:Bool) {cells:Array Value} {t:TypeId} {fz:Nat×Nat} (Kc:sC sz fz cells.size) (hh:w'.heap=w.heap.push (.cells cells t fz)) (ho:p9 w w')
 {cap:Nat} {ds:List (List V)} (hl:∀ e∈ds,e.length=sz) (AR:cells.size=cap*sz) (hc:ds.length<=cap) (hr:iK (E.H2 g) ds.flatten cells.toList):
 ∃ E',b9 E' ((match gone with|some k=>st.remove k|none=>st).push g (.arr sz ds)) w'/\Ext E st w E' ((match gone with|some k=>st.remove k|none=>st).push g (.arr sz ds)) w'/\
  Rel E' (.ms (st.aL g) sz 0 ds.length) (.slice (some ⟨w.heap.size,0,none⟩) ds.length cap):=by
 have vL:=cU hl
 have hle:ds.length*sz<=cells.size:=by rw [AR];exact Nat.mul_le_mul_right _ hc
 obtain ⟨E',s1,s2,s3,s4⟩:=hs.newRow gone g Kc hh ho (.arr sz ds) ds.flatten (fun F L _ h=>⟨hl,h⟩) (by omega) (fun j v hj=>let ⟨x,hx,h⟩:=hr j v hj;⟨x,by simpa using hx,h⟩)
 refine ⟨E',s1,s2,.ms _ _ _ _ _ _ s3 hc ?_ (by rw [s4]) (.inr ?_)⟩
 · rw [s4];simp [AR]
 · rw [s4];simp
theorem newSlice_ok {m:kL} {sz:Nat} {es:List (List V)} {A:bS} (hw:(j2 m sz es st).wp A K) (hs:b9 E st w) {cells:Array Value} {t:TypeId} {fz:Nat×Nat} (Kc:sC sz fz cells.size)
 (hh:w'.heap=w.heap.push (.cells cells t fz)) (ho:p9 w w') {cap:Nat} (hl:∀ e∈es,e.length=sz) (AR:cells.size=cap*sz) (hc:es.length<=cap) (hr:iK E es.flatten cells.toList):
 ∃ v bU E',K (v,bU)/\b9 E' bU w'/\Ext E st w E' bU w'/\Rel E' v (.slice (some ⟨w.heap.size,0,none⟩) es.length cap):=by
 cases m with
 |im g=>
  obtain ⟨ds,hd,hk⟩:=hw
  obtain ⟨h1,h2,h3⟩:=jB hd
  have mQ:mC E.I ds.flatten cells.toList:=by
   intro j d hj
   obtain ⟨v,hv,GP⟩:=(mB h1).2 j d hj
   obtain ⟨x,hx,vM,_⟩:=hr j v hv
   exact ⟨x,hx,zF GP vM⟩
  obtain ⟨E',s1,s2,s3⟩:=Da hs none g Kc hh ho (h3 hl) AR (by omega) mQ
  exact ⟨_,_,E',hk,s1,s2,by rw [h2] at s3;exact s3⟩
 |fz=>
  obtain ⟨ds,hd,hk⟩:=hw
  obtain ⟨h1,h2,h3⟩:=jB hd
  have mQ:mC E.I ds.flatten cells.toList:=by
   intro j d hj
   obtain ⟨v,hv,GP⟩:=(mB h1).2 j d hj
   obtain ⟨x,hx,vM,_⟩:=hr j v hv
   exact ⟨x,hx,zF GP vM⟩
  obtain ⟨E',s1,s2,s3⟩:=Pz hs Kc hh ho (h3 hl) AR (by omega) mQ
  exact ⟨_,_,E',hk,s1,s2,by rw [h2] at s3;exact s3⟩
 |mu g=>
  obtain ⟨ds,hd,hk⟩:=hw
  obtain ⟨h1,h2,h3⟩:=mP hd
  have mQ:iK (E.H2 g) ds.flatten cells.toList:=by
   intro j d hj
   have hlen:=C9 h1
   have cL:j<es.flatten.length:=by rw [<-hlen];exact (List.getElem?_eq_some_iff.1 hj).1
   obtain ⟨x,hx,vM,h1x⟩:=hr j _ (List.getElem?_eq_getElem cL)
   have KA:eI E es.flatten (cells.extract 0 es.flatten.length):=by
    have kD:es.flatten.length<=cells.size:=by rw [cU hl,AR];exact Nat.mul_le_mul_right _ hc
    refine ⟨by rw [Array.size_extract];omega,fun j v y hj hy=>?_⟩
    obtain ⟨z,hz,SO,_⟩:=hr j v hj
    rw [Array.getElem?_extract] at hy
    split at hy
    · rw [Nat.zero_add] at hy
      rw [Array.getElem?_toList,hy] at hz
      cases hz;exact SO
    · cases hy
   have:=tW h1 KA
   refine ⟨x,hx,this.2 j d x hj ?_,h1x⟩
   have GQ:j<cells.size:=by
    have:=(List.getElem?_eq_some_iff.1 hx).1
    simpa using this
   rw [Array.getElem?_extract,if_pos (by omega),Nat.zero_add]
   simpa using hx
  obtain ⟨E',s1,s2,s3⟩:=Ih hs none g Kc hh ho (h3 hl) AR (by omega) mQ
  exact ⟨_,_,E',hk,s1,s2,by rw [h2] at s3 ⊢;exact s3⟩
end
open Go
structure L9 (P:Program) (E:Env) (w:World) (sz:Nat) (x:Value) (es:List (List V)) (xs:List Value):Prop where
 KB:∀ e∈es,e.length=sz
 Db:xs.length=es.length*sz
 len:∀ w0:World,(Builtin.lenOf x).run P w0=.ok es.length w0
 first:∀ w0:World,w0.heap=w.heap->∀ n,n<=es.length->(Builtin.firstCells sz n x).run P w0=.ok (xs.take (n*sz)).toArray w0
 rel:iK E es.flatten xs
 one:∀ y∈xs,y.oneCell'=true
section
variable {P:Program} {E:Env} {st:St} {w:World} {K:R->Prop}
theorem oU:∀ l:List UInt8,(eR l).flatten=l.map fun c=>V.i .u8 c.toNat
 |[]=>rfl
 |c::r=>by
  have:=oU r
  simp only [eR,List.map_cons,List.flatten_cons,List.singleton_append] at*
  rw [this]
theorem Bz {sz:Nat} {es:List (List V)} {b off cap:Nat} (hl:∀ e∈es,e.length=sz) (hc:fX E w b off es.flatten) (len:Nat) (hlen:len=es.length):
 ∃ xs,L9 P E w sz (.slice (some ⟨b,off,none⟩) len cap) es xs:=by
 subst hlen
 obtain ⟨xs,h1,h2,h3,h4⟩:=hc.list
 have vL:=cU hl
 refine ⟨xs,hl,by omega,fun w0=>by simp [Builtin.lenOf],fun w0 hw n hn=>?_,fun j v hj=>?_,h4⟩
 · refine run_firstCells_some (P:=P) w0 sz n ⟨b,off,none⟩ es.length cap (xs.take (n*sz)) ?_ fun j v hj=>?_
   · rw [List.length_take]
     have:n*sz<=es.length*sz:=Nat.mul_le_mul_right _ hn
     omega
   · rw [List.getElem?_take] at hj
     split at hj
     · rw [Addr.add_mid]
       have:=h2 j v hj
       rw [kW] at this ⊢
       simpa [bI,hw] using this
     · cases hj
 · obtain ⟨x,hx,hr⟩:=h3.get hj
   have Se:xs[j]? =some x:=by simpa using hx
   exact ⟨x,Se,hr,h4 x (List.mem_of_getElem? Se)⟩
theorem sE {sz:Nat} {x:Value} (hl:∀ w0:World,(Builtin.lenOf x).run P w0=.ok 0 w0) (hf:∀ w0:World,(Builtin.firstCells sz 0 x).run P w0=.ok #[] w0):L9 P E w sz x [] [] where
 KB e he:=by cases he
 Db:=by simp
 len:=hl
 first w0 _ n hn:=by
  obtain rfl:n=0:=by simpa using hn
  simpa using hf w0
 rel j v hj:=by simp at hj
 one y hy:=by cases hy
theorem elems_ok {sz:Nat} {v:V} {x:Value} {A:bS} {k:List (List V)->T R} (hs:b9 E st w) (hr:Rel E v x) (hw:(jK sz st v k).wp A K):
 ∃ es xs,(k es).wp A K/\L9 P E w sz x es xs:=by
 unfold jK at hw
 split at hw
 · cases hr with
   |deep hd=>
    cases hd
    exact ⟨[],[],hw,sE (fun w0=>by simp [Builtin.lenOf]) (fun w0=>by simp [Builtin.firstCells])⟩
 · rename_i tok dS es
   split at hw
   case isFalse=>exact hw.elim
   rename_i hz
   subst hz
   have fin:∀ {x:Value},eT E.I (.sl none dS es) x->∃ xs,L9 P E w dS x es xs:=by
    intro x hd
    cases hd with
    |mS=>exact ⟨[],sE (fun w0=>by simp [Builtin.lenOf]) (fun w0=>by simp [Builtin.firstCells])⟩
    |Kp _ a hs=>exact ⟨[],sE (fun w0=>by simp [Builtin.lenOf]) (fun w0=>by simp [Builtin.firstCells,loadCells,loadCellsFrom])⟩
    |sl _ _ bL off cap val hc hl hv hr=>exact Bz hl (hs.Up hv hr) _ rfl
   cases hr with
   |deep hd=>
    cases hd with
    |mS=>obtain ⟨xs,h⟩:=fin (.mS (I:=E.I) dS);exact ⟨_,xs,hw,h⟩
    |Kp _ a hs=>obtain ⟨xs,h⟩:=fin (.Kp (I:=E.I) dS a hs);exact ⟨_,xs,hw,h⟩
    |sl _ _ bL off cap val hc hl hv hr=>obtain ⟨xs,h⟩:=fin (.sl dS es bL off cap val hc hl hv hr);exact ⟨_,xs,hw,h⟩
   |EW k _ _ a cap hk hd _ _=>obtain ⟨xs,h⟩:=fin hd;exact ⟨_,xs,hw,h⟩
 · rename_i key dS s n
   split at hw
   case isFalse=>exact hw.elim
   rename_i hz
   subst hz
   obtain ⟨ob,eC,hw⟩:=hw
   dsimp only at hw
   split at hw
   case h_2=>exact hw.elim
   rename_i eJ es
   split at hw
   case isFalse=>exact hw.elim
   rename_i hz
   subst hz
   obtain ⟨eB,hw⟩:=hw
   have eB:s+n<=es.length:=by simpa using eB
   have hlen:((es.drop s).take n).length=n:=by simp;omega
   cases hr with
   |deep hd=>cases hd
   |ms _ _ _ _ a cap hk hc hf hb ha=>
    have Nr:=hs.obj key _ eC
    rcases ha with h0|ha
    · have hn:n=0:=by omega
      subst hn
      have:(es.drop s).take 0=[]:=by simp
      rw [this] at hw
      exact ⟨[],[],hw,sE (fun w0=>by simp [Builtin.lenOf]) (fun w0=>by simp [Builtin.firstCells,loadCells,loadCellsFrom])⟩
    · subst ha
      have hl:∀ e∈(es.drop s).take n,e.length=eJ:=fun e he=>Nr.1 e (List.mem_of_mem_drop (List.mem_of_mem_take he))
      have wZ:∀ e∈es.drop s,e.length=eJ:=fun e he=>Nr.1 e (List.mem_of_mem_drop he)
      have nK:=(Nr.2.zE.mono (E.C0 key)).sub (s*eJ) (n*eJ)
      rw [<-mA Nr.1,<-lZ wZ] at nK
      obtain ⟨xs,hx⟩:=Bz (P:=P) (cap:=cap) hl nK n hlen.symm
      exact ⟨_,xs,hw,hx⟩
 · rename_i l
   split at hw
   case isFalse=>exact hw.elim
   rename_i hz
   subst hz
   have hx:=hr.Ca
   subst hx
   have kD:(str l).size=l.length:=by simp [str,ByteArray.size]
   refine ⟨eR l,l.map fun c=>.int .u8 c.toNat,hw,?_,by simp [eR],fun w0=>by simp [Builtin.lenOf,eR,kD],?_,?_,?_⟩
   · intro e he
     simp only [eR,List.mem_map] at he
     obtain ⟨c,_,rfl⟩:=he
     rfl
   · intro w0 _ n hn
     simp only [eR,List.length_map] at hn
     simp only [Builtin.firstCells,Sem.run_pure,Nat.mul_one]
     congr 1
     apply Array.ext'
     simp [str,ByteArray.data_extract,List.map_take]
   · intro j v hj
     rw [oU,List.getElem?_map] at hj
     cases hc:l[j]? with
     |none=>rw [hc] at hj;cases hj
     |some c=>
      rw [hc] at hj
      simp only [Option.map_some,Option.some.injEq] at hj
      subst hj
      exact ⟨.int .u8 c.toNat,by simp [hc],.deep (.i _ _),rfl⟩
   · intro y hy
     simp only [List.mem_map] at hy
     obtain ⟨c,_,rfl⟩:=hy
     rfl
 · exact hw.elim
def qM (P:Program) (t:Option TypeId):Bool:=
 match t with
 |some u=>match P.underlying u with
  |some (.int _)=>false
  |some _=>true
  |none=>false
 |none=>true
theorem AS {u:TypeId} {d:TypeDesc} (hq:P.underlying u=some d) (hz:qM P (some u)=true):∀ k,d≠.int k:=by
 intro k hk
 subst hk
 simp [qM,hq] at hz
theorem fA {α β:Type} {X:Result α} {F:α->World->Result β} {x:α} {w':World} {Y:Result β} (hX:X=.ok x w') (h:F x w'=Y):X.andThen F=Y:=by rw [hX];exact h
theorem qN {ts:Array TypeId} {t ty el:TypeId} {i:TypeInfo} {x:Value} {n:Nat} {xs:List Value} (ht:ts[0]? =some t) (hu:P.underlying t=some (.slice el)) (hi:P.info? el=some i) (hz:qM P ts[1]? =true)
 (hlen:(Builtin.lenOf x).run P w=.ok n w) (Cd:(Builtin.firstCells i.size n x).run P w=.ok xs.toArray w) (b off nD wO:Nat) (lV:nD+n<=wO) (Us:w.there b (off+nD*i.size) xs.length) (h1:∀ y∈xs,y.oneCell'=true):
 (Builtin.append_ ts ty #[.slice (some ⟨b,off,none⟩) nD wO,x]).run P w=.ok (.slice (some ⟨b,off,none⟩) (nD+n) wO) (w.setCells b (off+nD*i.size) xs):=by
 have vO:=run_storeCells_cells (P:=P) b (off+nD*i.size) xs 0 w (fun j hj=>by simpa using (Us j hj).1) (fun j hj=>by simpa using (Us j hj).2) h1
 simp only [Nat.add_zero] at vO
 unfold Builtin.append_
 simp only [ht,List.getElem?_toArray,List.getElem?_cons_zero,List.getElem?_cons_succ,Sem.run_bind,run_underlying hu,Result.andThen_ok]
 refine fA (x:=i.size) (w':=w) (by simp [sizeOf,typeInfo,hi]) ?_
 cases h:ts[1]? with
 |none=>
  simp [hlen,lV,Cd,Addr.add_mid,vO]
 |some u=>
  rw [h] at hz
  cases hq:P.underlying u with
  |none=>simp [qM,hq] at hz
  |some d=>
   have dM:=AS hq hz
   simp only [Sem.run_bind,run_underlying hq,Result.andThen_ok]
   refine fA (x:=false) (w':=w) (by cases d<;>first|exact absurd rfl (dM _)|simp) ?_
   simp [hlen,lV,Cd,Addr.add_mid,vO]
theorem nE {ts:Array TypeId} {t ty el:TypeId} {i:TypeInfo} {x:Value} (ht:ts[0]? =some t) (hu:P.underlying t=some (.slice el)) (hi:P.info? el=some i) (hz:qM P ts[1]? =true)
 (hlen:(Builtin.lenOf x).run P w=.ok 0 w) (Cd:(Builtin.firstCells i.size 0 x).run P w=.ok #[] w) (b:Option Addr) (nD wO:Nat) (lV:nD<=wO):
 (Builtin.append_ ts ty #[.slice b nD wO,x]).run P w=.ok (.slice b nD wO) w:=by
 unfold Builtin.append_
 simp only [ht,List.getElem?_toArray,List.getElem?_cons_zero,List.getElem?_cons_succ,Sem.run_bind,run_underlying hu,Result.andThen_ok]
 refine fA (x:=i.size) (w':=w) (by simp [sizeOf,typeInfo,hi]) ?_
 cases h:ts[1]? with
 |none=>
  cases b<;>simp [hlen,lV,Cd,storeCells]
 |some u=>
  rw [h] at hz
  cases hq:P.underlying u with
  |none=>simp [qM,hq] at hz
  |some d=>
   have dM:=AS hq hz
   simp only [Sem.run_bind,run_underlying hq,Result.andThen_ok]
   refine fA (x:=false) (w':=w) (by cases d<;>first|exact absurd rfl (dM _)|simp) ?_
   cases b<;>simp [hlen,lV,Cd,storeCells]
theorem oV {ts:Array TypeId} {t ty el:TypeId} {i:TypeInfo} {z:Value} {x:Value} {n:Nat} {xs ys:List Value} (ht:ts[0]? =some t) (hu:P.underlying t=some (.slice el)) (hi:P.info? el=some i) (C6:i.zero=some z) (hz:qM P ts[1]? =true)
 (hlen:(Builtin.lenOf x).run P w=.ok n w) (Cd:(Builtin.firstCells i.size n x).run P w.drew=.ok xs.toArray w.drew) (b:Option Addr) (nD wO:Nat)
 (hold:(Builtin.firstCells i.size nD (.slice b nD wO)).run P w.drew=.ok ys.toArray w.drew) (hg:wO<nD+n) (hb:(nD+n)*i.bytes<=140737488355328) (h63:nD+n<=9223372036854775807):
 (Builtin.append_ ts ty #[.slice b nD wO,x]).run P w=.ok (.slice (some ⟨w.heap.size,0,none⟩) (nD+n) (grownCap w (nD+n) wO el))
   (w.drew.alloc (.cells (ys.toArray++xs.toArray++Builtin.zeroCells z.cells (grownCap w (nD+n) wO el - (nD+n))) el)):=by
 have hn:¬(nD+n<=wO):=by omega
 have Yg:¬(9223372036854775807<((nD:Int)+(n:Int))):=by omega
 have Cc:=growslice_fits (need:=nD+n) (old:=wO) (bytes:=i.bytes) hg hb
 have Yh:¬(281474976710656<Builtin.nextslicecap (nD+n) wO*i.bytes):=by omega
 unfold Builtin.append_
 simp only [ht,List.getElem?_toArray,List.getElem?_cons_zero,List.getElem?_cons_succ,Sem.run_bind,run_underlying hu,Result.andThen_ok]
 refine fA (x:=i.size) (w':=w) (by simp [sizeOf,typeInfo,hi]) ?_
 cases h:ts[1]? with
 |none=>
  simp [typeInfo,zeroValue,hi,C6,hlen,hn,Yg,Yh,Question.forced,Cd,hold,newRow,grownCap]
  congr 2
  apply Array.ext'
  simp [List.append_assoc]
 |some u=>
  rw [h] at hz
  cases hq:P.underlying u with
  |none=>simp [qM,hq] at hz
  |some d=>
   have dM:=AS hq hz
   simp only [Sem.run_bind,run_underlying hq,Result.andThen_ok]
   refine fA (x:=false) (w':=w) (by cases d<;>first|exact absurd rfl (dM _)|simp) ?_
   simp [typeInfo,zeroValue,hi,C6,hlen,hn,Yg,Yh,Question.forced,Cd,hold,newRow,grownCap]
   congr 2
   apply Array.ext'
   simp [List.append_assoc]
end
end Go.Eng
