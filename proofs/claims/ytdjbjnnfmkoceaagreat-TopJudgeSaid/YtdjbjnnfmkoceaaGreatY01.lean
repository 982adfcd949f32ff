/-
Each operation of the model does what the abstract step says (part five: new objects).
-/
import Derived.Test.YtdjbjnnfmkoceaaGreatY00
import Derived.Laws.BytesString
import Derived.Laws.Slices
set_option linter.unusedVariables false
set_option linter.unusedSimpArgs false
namespace Go.Eng
open Go
structure qN (w w':World):Prop where
 os:w'.os=w.os
 out:w'.output=w.output
 tape:w'.tape=w.tape
theorem Env.Ku (E:Env) (g g':Bool) (L:Loc) (J:zZ):(E.Kd g').Le ((E.push g L J).Kd g'):=by
 cases g' with
 |true=>exact Env.CQ (Env.qJ E g L J)
 |false=>exact Env.qJ E g L J
theorem Env.FV (E F:Env) (g:Bool):F.at (E.aK g)=F.Kd g:=by cases g<;>rfl
section
variable {E:Env} {st:St} {w w':World}
theorem bQ.newRow {z:Nat} (h:bQ E st w) (gone:Option Key) (g:Bool) {cells:Array Value} {t:TypeId} {fz:Nat×Nat} (Oh:tB z fz cells.size) (hh:w'.heap=w.heap.push (.cells cells t fz)) (ho:qN w w')
 (ob:Obj) (cs:List V) (eQ:∀ F (L:Loc),L.base=0->fV z F w' L cs->Holds F w' L ob) (hl:cs.length<=cells.size)
 (hr:∀ (j:Nat) (v:V),cs[j]? =some v->∃ x,cells[j]? =some x/\Rel (E.Kd g) v x/\x.oneCell'=true):
 ∃ E',bQ E' ((match gone with|some k=>st.remove k|none=>st).push g ob) w'/\Ext E st w E' ((match gone with|some k=>st.remove k|none=>st).push g ob) w'/\
  E'.has (st.aK g)/\E'.μ (st.aK g)=⟨w.heap.size,0,cells.size⟩:=by
 have gU:fV z ((E.push g ⟨w.heap.size,0,cells.size⟩ fun b j=>if b=w.heap.size then (fun _=>none) j else none).at (E.aK g)) w' ⟨w.heap.size,0,cells.size⟩ cs:=by
  refine ⟨cells,t,fz,by simp [hh],Oh,by simpa using hl,Nat.le_refl _,fun j v hj=>?_⟩
  obtain ⟨x,hx,AY,h1⟩:=hr j v hj
  refine ⟨x,by simpa using hx,?_,h1⟩
  rw [Env.FV]
  exact AY.mono (Env.Ku _ _ _ _ _)
 obtain ⟨h1,h2⟩:=h.fresh gone g 0 cells.size (fun _=>none) ob _ hh ho.os ho.out ho.tape (fun j x hx=>by cases hx) (eQ _ _ rfl gU)
 refine ⟨_,h1,h2,?_,?_⟩
 · rw [h.aK];exact Env.eI _ _ _ _
 · rw [h.aK];exact Env.e9 _ _ _ _
theorem bQ.aiT {z:Nat} (h:bQ E st w) (gone:Option Key) (g:Bool) {cells:Array Value} {t:TypeId} {fz:Nat×Nat} (Oh:tB z fz cells.size) (hh:w'.heap=w.heap.push (.cells cells t fz)) (ho:qN w w')
 (n:Nat) (hn:n<=cells.size):
 ∃ E',bQ E' ((match gone with|some k=>st.remove k|none=>st).push g .spare) w'/\Ext E st w E' ((match gone with|some k=>st.remove k|none=>st).push g .spare) w'/\
  E'.has (st.aK g)/\E'.μ (st.aK g)=⟨w.heap.size,n,cells.size⟩/\∀ j,j<n->E'.I w.heap.size j=cells[j]? :=by
 have hold:∀ j,E.I w.heap.size j=none:=by
  intro j
  cases hI:E.I w.heap.size j with
  |none=>rfl
  |some x=>have:=h.jR _ _ _ hI;simp [bF] at this
 have gU:fV 1 ((E.push g ⟨w.heap.size,n,cells.size⟩ fun b j=>if b=w.heap.size then (fun j=>if j<n then cells[j]? else none) j else none).at (E.aK g)) w' ⟨w.heap.size,n,cells.size⟩ []:=
  ⟨cells,t,fz,by simp [hh],Oh.one,by simpa using hn,Nat.le_refl _,fun j v hj=>by simp at hj⟩
 obtain ⟨h1,h2⟩:=h.fresh gone g n cells.size (fun j=>if j<n then cells[j]? else none) .spare _ hh ho.os ho.out ho.tape (fun j x hx=>by
  split at hx
  · exact ⟨⟨_,_,_,rfl,hx⟩,by omega⟩
  · cases hx) gU
 refine ⟨_,h1,h2,?_,?_,?_⟩
 · rw [h.aK];exact Env.eI _ _ _ _
 · rw [h.aK];exact Env.e9 _ _ _ _
 · intro j hj
   simp [Env.push,hold,hj]
theorem bQ.aiU (h:bQ E st w) (g:Bool) (kd:Option IntKind):∃ E',bQ E' (st.push g (.mp kd [])) (w.alloc (.map #[] 0))/\Ext E st w E' (st.push g (.mp kd [])) (w.alloc (.map #[] 0))/\
 E'.has (st.aK g)/\(E'.μ (st.aK g)).bI=w.heap.size:=by
 obtain ⟨h1,h2⟩:=h.fresh (w':=w.alloc (.map #[] 0)) none g 0 0 (fun _=>none) (.mp kd []) (.map #[] 0) rfl rfl rfl rfl (fun j x hx=>by cases hx)
  ⟨#[],0,(by show (w.heap.push _)[w.heap.size]? =_;simp),rfl,(fun j q e hq=>by simp at hq),⟨fun x hx=>by simp at hx,by simp⟩⟩
 refine ⟨_,h1,h2,?_,?_⟩
 · rw [h.aK];exact Env.eI _ _ _ _
 · rw [h.aK];rw [Env.e9]
end
def jX (P:Program) (t:TypeId) (zs:List V):Bool:=
 match P.info? t with
 |some i=>match i.zero with
  |some z=>decide (z.cells.size=zs.length)&&decide (i.size=zs.length)&&z.cells.all (·.oneCell')&&(z.cells.toList.zip zs).all fun q=>qL 4 q.1 q.2
  |none=>false
 |none=>false
theorem gV {P:Program} {t:TypeId} {zs:List V} (h:jX P t zs=true):
 ∃ i z,P.info? t=some i/\i.zero=some z/\i.size=zs.length/\(∀ E,dY E zs z.cells)/\z.cells.size=zs.length/\∀ (j:Nat) (x:Value),z.cells[j]? =some x->x.oneCell'=true:=by
 unfold jX at h
 split at h
 · rename_i i hi
   split at h
   · rename_i z hz
     simp only [Bool.and_eq_true,decide_eq_true_eq] at h
     refine ⟨i,z,hi,hz,h.1.1.2,fun E=>⟨h.1.1.1,fun j v x hj hx=>iZ (Ih h.2 (by rw [Array.getElem?_toList];exact hx) hj) E⟩,h.1.1.1,?_⟩
     intro j x hx
     exact (Array.all_eq_true_iff_forall_mem.1 h.1.2) x (Array.mem_of_getElem? hx)
   · cases h
 · cases h
theorem iQ {P:Program} {t:TypeId} {i:TypeInfo} {z:Value} (hi:P.info? t=some i) (hz:i.zero=some z) (w:World):(zeroValue t).run P w=.ok z w:=by
 simp [zeroValue,typeInfo,hi,hz]
section
variable {P:Program} {o:Oper} {a:Act} {E:Env} {N:Nat} {st:St} {w:World} {fr:Fr} {next:Act->World->Prop} {Q:Exit->Act->World->Prop} {K:R->Prop}
theorem OG {t:TypeId} {g:Bool} {zero:List V} (ho:o.op=.alloc t) (hz:jX P t zero=true) (hs:bQ E st w)
 (hw:(step (.alloc g zero) fr st).wp (aE P) K) (hc:eX E st w o a next K):o.wp P a w next Q:=by
 obtain ⟨i,z,hi,CX,jN,hr,hl,h1⟩:=gV hz
 obtain ⟨E',s1,s2,s3,s4⟩:=hs.newRow (z:=1) (w':=w.alloc (.cells z.cells t)) none g (.inl rfl) rfl ⟨rfl,rfl,rfl⟩ (.cs zero) zero (fun _ _ h0 h=>⟨h0,h⟩) (by omega)
  (fun j v hj=>let ⟨x,hx,AY⟩:=(hr (E.Kd g)).get hj;⟨x,hx,AY,h1 j x hx⟩)
 refine aP (x:=.pointer (some ⟨w.heap.size,0,none⟩)) ?_ (hc _ _ E' _ _ hw s1 s2 ?_)
 · simp [execOp,ho,Instr.alloc,iQ hi CX,newVar,newRow]
 · have:=Rel.p (E:=E') (st.aK g) 0 s3
   rw [s4] at this
   exact this
theorem UE {t:TypeId} {x:Operand} {d:bH} {g:Bool} (ho:o.op=.box t x) (hx:cZ x d=true) (hs:bQ E st w) (hf:aS E N fr a)
 (hw:(step (.box g d) fr st).wp (aE P) K) (hc:eX E st w o a next K):o.wp P a w next Q:=by
 have h1:=aQ hx hf
 simp only [step] at hw
 split at hw
 case h_2=>exact hw.elim
 rename_i aiQ
 unfold T.opt at hw
 split at hw
 case h_2=>exact hw.elim
 rename_i c vW
 obtain ⟨sH,jW⟩:=A4 aiQ h1
 have Ag:=tP vW sH
 have jN:(a.eval x).cells.size=c.length:=Ag.1
 obtain ⟨E',s1,s2,s3,s4⟩:=hs.newRow (w':=w.alloc (.cells (a.eval x).cells t)) none g (.inl rfl) rfl ⟨rfl,rfl,rfl⟩ (.cs c) c (fun _ _ h0 h=>⟨h0,h⟩) (by omega)
  (fun j v hj=>let ⟨x,hx,AY⟩:=Ag.get hj;⟨x,hx,AY,jW x (by rw [Array.mem_toList_iff];exact Array.mem_of_getElem? hx)⟩)
 refine aP (x:=.pointer (some ⟨w.heap.size,0,none⟩)) ?_ (hc _ _ E' _ _ hw s1 s2 ?_)
 · simp [execOp,ho,Instr.box,newVar,newRow]
 · have:=Rel.p (E:=E') (st.aK g) 0 s3
   rw [s4] at this
   exact this
theorem OH {t:TypeId} {g:Bool} {kd:Option IntKind} (ho:o.op=.makeMap t none) (hs:bQ E st w)
 (hw:(step (.BA g kd) fr st).wp (aE P) K) (hc:eX E st w o a next K):o.wp P a w next Q:=by
 obtain ⟨E',s1,s2,s3,s4⟩:=hs.aiU g kd
 refine aP (x:=.map (some w.heap.size)) ?_ (hc _ _ E' _ _ hw s1 s2 ?_)
 · simp [execOp,ho,Instr.makeMap]
 · have:=Rel.m (E:=E') (st.aK g) s3
   rw [s4] at this
   exact this
def vX (P:Program) (fs:Array Field):List (Nat×Operand)->List (Nat×Nat×bH)->Bool
 |[],[]=>true
 |(i,x)::r,(off,sz,d)::q=>(match fs[i]? with
    |some f=>decide (f.offset=off)&&(P.info? f.type).map (·.size)==some sz
    |none=>false)&&cZ x d&&vX P fs r q
 |_,_=>false
def rO (sz:Nat):List (Nat×Operand)->List (Nat×Nat×bH)->Bool
 |[],[]=>true
 |(i,x)::r,(off,eD,d)::q=>decide (off=i*sz)&&decide (eD=sz)&&cZ x d&&rO sz r q
 |_,_=>false
theorem FW (cs:Array Value) (off:Nat):∀ (l:List Value) (k:Nat) (acc:Array Value),(l.zipIdx k).foldl (fun (cs:Array Value) (q:Value×Nat)=>cs.setIfInBounds (off+q.2) q.1) acc=rN acc (off+k) l
 |[],_,_=>rfl
 |v::r,k,acc=>by
  rw [List.zipIdx_cons,List.foldl_cons,FW cs off r]
  rfl
theorem UF (v:Array Value) (off:Nat) (acc:Array Value):v.zipIdx.foldl (fun (cs:Array Value) (q:Value×Nat)=>cs.setIfInBounds (off+q.2) q.1) acc=rN acc off v.toList:=by
 rw [<-Array.foldl_toList,Array.toList_zipIdx,FW acc off v.toList 0 acc,Nat.add_zero]
theorem anG {cs:List V} {xs:Array Value} (hr:dY E cs xs) (h1:∀ (j:Nat) (x:Value),xs[j]? =some x->x.oneCell'=true) {off:Nat} {vs:List V} {ys:Array Value} (hv:dY E vs ys) (hy:∀ y∈ys.toList,y.oneCell'=true)
 (qM:off+vs.length<=cs.length):dY E (cS cs off vs) (rN xs off ys.toList)/\∀ (j:Nat) (x:Value),(rN xs off ys.toList)[j]? =some x->x.oneCell'=true:=by
 have hl:ys.toList.length=vs.length:=by simpa using hv.1
 have hs:=hr.1
 refine ⟨⟨by rw [gR,gS,hs],fun j v x hj hx=>?_⟩,fun j x hx=>?_⟩
 · rw [gT _ _ _ _ qM] at hj
   rw [lG _ _ _ _ (by omega)] at hx
   by_cases hc:off<=j/\j<off+vs.length
   · rw [if_pos hc] at hj
     rw [if_pos (by omega)] at hx
     exact hv.2 _ v x hj (by simpa using hx)
   · rw [if_neg hc] at hj
     rw [if_neg (by omega)] at hx
     exact hr.2 _ v x hj hx
 · rw [lG _ _ _ _ (by omega)] at hx
   by_cases hc:off<=j/\j<off+ys.toList.length
   · rw [if_pos hc] at hx
     exact hy x (List.mem_of_getElem? hx)
   · rw [if_neg hc] at hx
     exact h1 j x hx
theorem CY (place:Nat->Option (Nat×Nat)):∀ (_ps:List (Nat×V)) (qs:List (Nat×Nat×V)) (xs:List (Nat×Value)) (cs B6:List V) (ys:Array Value),
 hZ cs qs=some B6->dY E cs ys->(∀ (j:Nat) (x:Value),ys[j]? =some x->x.oneCell'=true)->
 qs.length=xs.length->(∀ (j:Nat) (q:Nat×Nat×V) (x:Nat×Value),qs[j]? =some q->xs[j]? =some x->place x.1=some (q.1,q.2.1)/\Rel E q.2.2 x.2)->
 ∃ zs,Instr.fill place ys xs=some zs/\dY E B6 zs/\∀ (j:Nat) (x:Value),zs[j]? =some x->x.oneCell'=true:=by
 intro ps qs
 induction qs with
 |nil=>
  intro xs cs B6 ys h hr h1 hl _
  simp only [hZ,Option.some.injEq] at h
  subst h
  have:xs=[]:=List.eq_nil_of_length_eq_zero hl.symm
  subst this
  exact ⟨ys,rfl,hr,h1⟩
 |cons q r ih=>
  obtain ⟨off,sz,v⟩:=q
  intro xs cs B6 ys h hr h1 hl hp
  match xs,hl with
  |(i,x)::xr,hl=>
  simp only [hZ] at h
  split at h
  case isFalse=>cases h
  rename_i hc
  obtain ⟨CA,jN,qM⟩:=hc
  obtain ⟨hpl,Ag⟩:=hp 0 _ _ rfl rfl
  obtain ⟨sH,jW⟩:=A4 CA Ag
  have hxs:x.cells.size=sz:=by rw [sH.1];exact jN
  have hys:ys.size=cs.length:=hr.1
  obtain ⟨Ke,h1'⟩:=anG hr h1 sH jW (off:=off) (by omega)
  obtain ⟨zs,BF,Cy,PQ⟩:=ih xr _ B6 _ h Ke h1' (by simpa using hl) (fun j q y hq hy=>hp (j+1) q y (by simpa using hq) (by simpa using hy))
  refine ⟨zs,?_,Cy,PQ⟩
  simp only at hpl
  simp only [Instr.fill,hpl]
  rw [if_neg (by simp [hxs];omega)]
  rw [<-BF]
  congr 1
  exact UF _ _ _
theorem xU {fs:Array Field} (hf:aS E N fr a):∀ {ps:List (Nat×Operand)} {qs:List (Nat×Nat×bH)},vX P fs ps qs=true->
 (dD fr qs).length=ps.length/\∀ (j:Nat) (q:Nat×Nat×V) (p:Nat×Operand),(dD fr qs)[j]? =some q->ps[j]? =some p->(∃ f:Field,fs[p.1]? =some f/\f.offset=q.1/\(P.info? f.type).map (·.size)=some q.2.1)/\Rel E q.2.2 (a.eval p.2)
 |[],[],_=>⟨rfl,fun j q p hq=>by simp [dD] at hq⟩
 |(i,x)::r,(off,sz,d)::q,h=>by
  simp only [vX,Bool.and_eq_true] at h
  obtain ⟨⟨h1,h2⟩,h3⟩:=h
  obtain ⟨l1,l2⟩:=xU hf h3
  refine ⟨by simp [dD,l1],fun j y p hy hp=>?_⟩
  cases j with
  |zero=>
   simp [dD] at hy hp
   subst hy;subst hp
   refine ⟨?_,aQ h2 hf⟩
   split at h1
   · rename_i f hfi
     simp only [Bool.and_eq_true,decide_eq_true_eq,beq_iff_eq] at h1
     exact ⟨f,hfi,h1.1,h1.2⟩
   · cases h1
  |succ j=>exact l2 j y p (by simpa [dD] using hy) (by simpa using hp)
 |[],_::_,h=>by cases h
 |(_,_)::_,[],h=>by simp [vX] at h
theorem tS {sz:Nat} (hf:aS E N fr a):∀ {ps:List (Nat×Operand)} {qs:List (Nat×Nat×bH)},rO sz ps qs=true->
 (dD fr qs).length=ps.length/\∀ (j:Nat) (q:Nat×Nat×V) (p:Nat×Operand),(dD fr qs)[j]? =some q->ps[j]? =some p->(q.1=p.1*sz/\q.2.1=sz)/\Rel E q.2.2 (a.eval p.2)
 |[],[],_=>⟨rfl,fun j q p hq=>by simp [dD] at hq⟩
 |(i,x)::r,(off,eD,d)::q,h=>by
  simp only [rO,Bool.and_eq_true,decide_eq_true_eq] at h
  obtain ⟨⟨⟨h0,h1⟩,h2⟩,h3⟩:=h
  obtain ⟨l1,l2⟩:=tS hf h3
  refine ⟨by simp [dD,l1],fun j y p hy hp=>?_⟩
  cases j with
  |zero=>
   simp [dD] at hy hp
   subst hy;subst hp
   exact ⟨⟨h0,h1⟩,aQ h2 hf⟩
  |succ j=>exact l2 j y p (by simpa [dD] using hy) (by simpa using hp)
 |[],_::_,h=>by cases h
 |(_,_)::_,[],h=>by simp [rO] at h
theorem mapM_ok {α β:Type} {f:α->Sem β} {g:α->β}:∀ (l:List α),(∀ x∈l,(f x).run P w=.ok (g x) w)->(l.mapM f).run P w=.ok (l.map g) w
 |[],_=>rfl
 |x::r,h=>by
  have h1:=h x (.head _)
  have h2:=mapM_ok r (fun y hy=>h y (.tail _ hy))
  rw [List.mapM_cons]
  simp only [Sem.run_bind,h1,h2,Result.andThen_ok,Sem.run_pure,List.map_cons]
theorem UG {α β:Type} {f:α->Sem β} {g:α->β} (l:Array α) (h:∀ x∈l.toList,(f x).run P w=.ok (g x) w):(l.mapM f).run P w=.ok (l.map g) w:=by
 have:=mapM_ok (P:=P) (w:=w) l.toList h
 cases l with
 |mk l=>
  rw [List.mapM_toArray]
  simp only at this
  rw [map_eq_pure_bind]
  simp only [Sem.run_bind,this,Result.andThen_ok,Sem.run_pure]
  simp
theorem OI {t:TypeId} {ps:Array (Nat×Operand)} {qs:List (Nat×Nat×bH)} {zero:List V} {fs:Array Field} (ho:o.op=.build t ps) (hz:jX P t zero=true) (hu:P.underlying t=some (.struct fs))
 (B7:(fs.toList.all fun f=>(P.info? f.type).isSome)=true) (hp:vX P fs ps.toList qs=true) (hs:bQ E st w) (hf:aS E N fr a)
 (hw:(step (.Uf zero qs) fr st).wp (aE P) K) (hc:eX E st w o a next K):o.wp P a w next Q:=by
 obtain ⟨i,z,hi,CX,jN,hr,hl,h1⟩:=gV hz
 simp only [step] at hw
 unfold T.opt at hw
 split at hw
 case h_2=>exact hw.elim
 rename_i B6 hfp
 obtain ⟨l1,l2⟩:=xU (P:=P) hf hp
 obtain ⟨zs,BF,Cy,PQ⟩:=CY (E:=E) (fun k=>(fs.map fun f=>(f.offset,P.cellsOf f.type))[k]?) [] (dD fr qs) (ps.toList.map fun q=>(q.1,a.eval q.2)) zero B6 z.cells hfp (hr E) h1 (by simp [l1]) (fun j q x hq hx=>by
  rw [List.getElem?_map] at hx
  cases UH:ps.toList[j]? with
  |none=>rw [UH] at hx;cases hx
  |some p=>
   rw [UH] at hx
   simp only [Option.map_some,Option.some.injEq] at hx
   subst hx
   obtain ⟨⟨f,hfi,OD,ho2⟩,l7⟩:=l2 j q p hq UH
   refine ⟨?_,l7⟩
   simp only [Array.getElem?_map,hfi,Option.map_some,Program.cellsOf,OD]
   cases hq2:P.info? f.type with
   |none=>simp [hq2] at ho2
   |some i2=>
    simp [hq2] at ho2
    simp [ho2])
 have hm:(fs.mapM fun f=>do pure (f.offset,<-sizeOf f.type):Sem (Array (Nat×Nat))).run P w=.ok (fs.map fun f=>(f.offset,P.cellsOf f.type)) w:=by
  refine UG fs fun f hfm=>?_
  have:=List.all_eq_true.1 B7 f hfm
  obtain ⟨i2,hi2⟩:=Option.isSome_iff_exists.1 this
  simp [sizeOf,typeInfo,hi2,Program.cellsOf]
 refine aP (x:=.agg zs) ?_ (hc.same hs hw (.agg _ _ Cy.1 PQ Cy.2))
 have Il:(ps.map fun (q:Nat×Operand)=>(q.1,a.eval q.2)).toList=ps.toList.map fun q=>(q.1,a.eval q.2):=by simp
 simp only [execOp,ho,Instr.build,Sem.run_bind,iQ hi CX,run_underlying hu,Result.andThen_ok,hm]
 simp only [Il,BF,Sem.run_pure,Result.andThen_ok]
theorem OJ {t e:TypeId} {n sz:Nat} {ps:Array (Nat×Operand)} {qs:List (Nat×Nat×bH)} {zero:List V} (ho:o.op=.build t ps) (hz:jX P t zero=true) (hu:P.underlying t=some (.array n e))
 (UI:(P.info? e).map (·.size)=some sz) (hp:rO sz ps.toList qs=true) (hs:bQ E st w) (hf:aS E N fr a)
 (hw:(step (.Uf zero qs) fr st).wp (aE P) K) (hc:eX E st w o a next K):o.wp P a w next Q:=by
 obtain ⟨i,z,hi,CX,jN,hr,hl,h1⟩:=gV hz
 simp only [step] at hw
 unfold T.opt at hw
 split at hw
 case h_2=>exact hw.elim
 rename_i B6 hfp
 obtain ⟨l1,l2⟩:=tS hf hp
 obtain ⟨zs,BF,Cy,PQ⟩:=CY (E:=E) (fun k=>some (k*sz,sz)) [] (dD fr qs) (ps.toList.map fun q=>(q.1,a.eval q.2)) zero B6 z.cells hfp (hr E) h1 (by simp [l1]) (fun j q x hq hx=>by
  rw [List.getElem?_map] at hx
  cases UH:ps.toList[j]? with
  |none=>rw [UH] at hx;cases hx
  |some p=>
   rw [UH] at hx
   simp only [Option.map_some,Option.some.injEq] at hx
   subst hx
   obtain ⟨⟨OD,ho2⟩,l7⟩:=l2 j q p hq UH
   exact ⟨by simp [OD,ho2],l7⟩)
 cases hq:P.info? e with
 |none=>simp [hq] at UI
 |some i2=>
 have hi2:i2.size=sz:=by simpa [hq] using UI
 refine aP (x:=.agg zs) ?_ (hc.same hs hw (.agg _ _ Cy.1 PQ Cy.2))
 have Il:(ps.map fun (q:Nat×Operand)=>(q.1,a.eval q.2)).toList=ps.toList.map fun q=>(q.1,a.eval q.2):=by simp
 simp only [execOp,ho,Instr.build,Sem.run_bind,iQ hi CX,run_underlying hu,Result.andThen_ok]
 simp only [sizeOf,typeInfo,program,Il]
 simp [BF,Sem.run,hq,hi2]
end
open Go
theorem Ah {E:Env} {v d:V} {x:Value} (h:v.deep=some d) (hr:Rel E v x):eH E.I d x:=by
 unfold V.deep at h
 split at h<;>simp only [Option.some.injEq,reduceCtorEq] at h<;>subst h
 all_goals (cases hr)
 all_goals (first|assumption|skip)
 all_goals (rename_i hd;first|exact hd|(cases hd<;>first|exact .mM _|exact .Oz _ _ ‹_›|exact .sl _ _ _ _ _ _ ‹_› ‹_› ‹_› ‹_›))
theorem Ai:∀ {l r l' r':List V},k9 l=some l'->k9 r=some r'->k9 (l++r)=some (l'++r')
 |[],r,l',r',h,g=>by simp only [k9,Option.some.injEq] at h;subst h;exact g
 |v::l,r,l',r',h,g=>by
  simp only [k9] at h
  split at h
  · rename_i x y hx hy
    simp only [Option.some.injEq] at h
    subst h
    simp only [List.cons_append,k9,hx,Ai hy g]
  · cases h
theorem lJ:∀ {l l':List V},k9 l=some l'->l'.length=l.length/\∀ (j:Nat) (d:V),l'[j]? =some d->∃ v,l[j]? =some v/\v.deep=some d
 |[],l',h=>by simp only [k9,Option.some.injEq] at h;subst h;exact ⟨rfl,fun j d hd=>by simp at hd⟩
 |v::l,l',h=>by
  simp only [k9] at h
  split at h
  · rename_i x y hx hy
    simp only [Option.some.injEq] at h
    subst h
    obtain ⟨h1,h2⟩:=lJ hy
    refine ⟨by simp [h1],fun j d hd=>?_⟩
    cases j with
    |zero=>simp at hd;subst hd;exact ⟨v,rfl,hx⟩
    |succ j=>exact h2 j d (by simpa using hd)
  · cases h
theorem gW:∀ {es ds:List (List V)},eR es=some ds->k9 es.flatten=some ds.flatten/\ds.length=es.length/\∀ {sz:Nat},(∀ e∈es,e.length=sz)->∀ e∈ds,e.length=sz
 |[],ds,h=>by simp only [eR,Option.some.injEq] at h;subst h;exact ⟨rfl,rfl,fun _ e he=>by cases he⟩
 |e::es,ds,h=>by
  simp only [eR] at h
  split at h
  · rename_i x y hx hy
    simp only [Option.some.injEq] at h
    subst h
    obtain ⟨h1,h2,h3⟩:=gW hy
    refine ⟨Ai hx h1,by simp [h2],fun hl d hd=>?_⟩
    cases hd with
    |head=>rw [(lJ hx).1];exact hl e (.head _)
    |tail _ hd=>exact h3 (fun d hd=>hl d (.tail _ hd)) d hd
  · cases h
theorem xV:∀ {l r l' r':List V},eM l=some l'->eM r=some r'->eM (l++r)=some (l'++r')
 |[],r,l',r',h,g=>by simp only [eM,Option.some.injEq] at h;subst h;exact g
 |v::l,r,l',r',h,g=>by
  simp only [eM] at h
  split at h
  · rename_i x y hx hy
    simp only [Option.some.injEq] at h
    subst h
    simp only [List.cons_append,eM,hx,xV hy g]
  · cases h
theorem CZ:∀ {l l':List V},eM l=some l'->l'.length=l.length
 |[],l',h=>by simp only [eM,Option.some.injEq] at h;subst h;rfl
 |v::l,l',h=>by
  simp only [eM] at h
  split at h
  · rename_i x y hx hy
    simp only [Option.some.injEq] at h
    subst h
    simp [CZ hy]
  · cases h
theorem C0 {g:Bool} {l l':List V} (h:rH g l=some l'):l'.length=l.length:=by
 cases g with
 |true=>exact CZ h
 |false=>simp only [rH,Option.some.injEq] at h;rw [h]
theorem lP {g:Bool}:∀ {es ds:List (List V)},eU g es=some ds->rH g es.flatten=some ds.flatten/\ds.length=es.length/\∀ {sz:Nat},(∀ e∈es,e.length=sz)->∀ e∈ds,e.length=sz
 |[],ds,h=>by simp only [eU,Option.some.injEq] at h;subst h;cases g<;>exact ⟨rfl,rfl,fun _ e he=>by cases he⟩
 |e::es,ds,h=>by
  simp only [eU] at h
  split at h
  · rename_i x y hx hy
    simp only [Option.some.injEq] at h
    subst h
    obtain ⟨h1,h2,h3⟩:=lP hy
    refine ⟨?_,by simp [h2],fun hl d hd=>?_⟩
    · cases g with
      |true=>exact xV hx h1
      |false=>simp only [rH,Option.some.injEq] at hx h1 ⊢;simp [hx,h1]
    · cases hd with
      |head=>rw [C0 hx];exact hl e (.head _)
      |tail _ hd=>exact h3 (fun d hd=>hl d (.tail _ hd)) d hd
  · cases h
def gX (E:Env) (cs:List V) (xs:List Value):Prop:=∀ (j:Nat) (v:V),cs[j]? =some v->∃ x,xs[j]? =some x/\Rel E v x/\x.oneCell'=true
def lK (I:zZ) (cs:List V) (xs:List Value):Prop:=∀ (j:Nat) (v:V),cs[j]? =some v->∃ x,xs[j]? =some x/\eH I v x
theorem lK.mono {I J:zZ} (h:∀ b o x,I b o=some x->J b o=some x) {cs:List V} {xs:List Value} (hr:lK I cs xs):lK J cs xs:=
 fun j v hj=>let ⟨x,a,c⟩:=hr j v hj;⟨x,a,c.mono h⟩
section
variable {P:Program} {o:Oper} {a:Act} {E:Env} {N:Nat} {st:St} {w w':World} {fr:Fr} {next:Act->World->Prop} {Q:Exit->Act->World->Prop} {K:R->Prop}
theorem C3 {z:Nat} (hs:bQ E st w) (gone:Option Key) (g:Bool) {cells:Array Value} {t:TypeId} {fz:Nat×Nat} (Oh:tB z fz cells.size) (hh:w'.heap=w.heap.push (.cells cells t fz)) (ho:qN w w')
 {sz cap:Nat} {ds:List (List V)} (hl:∀ e∈ds,e.length=sz) (B8:cells.size=cap*sz) (hc:ds.length<=cap) (hr:lK E.I ds.flatten cells.toList):
 ∃ E',bQ E' ((match gone with|some k=>st.remove k|none=>st).push g .spare) w'/\Ext E st w E' ((match gone with|some k=>st.remove k|none=>st).push g .spare) w'/\
  Rel E' (.sl (some (st.aK g)) sz ds) (.slice (some ⟨w.heap.size,0,none⟩) ds.length cap):=by
 have CW:=cF hl
 have hle:ds.length*sz<=cells.size:=by rw [B8];exact Nat.mul_le_mul_right _ hc
 obtain ⟨E',s1,s2,s3,s4,s5⟩:=hs.aiT gone g Oh hh ho (ds.length*sz) hle
 refine ⟨E',s1,s2,?_⟩
 have Ke:=hr.mono s2.le.jR
 refine .FU _ _ _ _ _ s3 (.sl sz ds w.heap.size 0 cap (fun j=>cells.toList.getD j default) hc hl (fun j d hj=>?_) (fun j d hj=>?_)) (by rw [s4];exact ⟨rfl,rfl⟩) (.inr ?_)
 · have dZ:j<ds.length*sz:=by rw [<-CW];exact (List.getElem?_eq_some_iff.1 hj).1
   rw [Nat.zero_add,s5 j dZ]
   have:j<cells.size:=by omega
   simp [this]
 · obtain ⟨x,hx,AY⟩:=Ke j d hj
   simp only [List.getD_eq_getElem?_getD,hx]
   exact AY
 · rw [s4];simp [B8]
theorem UJ {z:Nat} (hs:bQ E st w) {cells:Array Value} {t:TypeId} {fz:Nat×Nat} (Oh:tB z fz cells.size) (hh:w'.heap=w.heap.push (.cells cells t fz)) (ho:qN w w')
 {sz cap:Nat} {ds:List (List V)} (hl:∀ e∈ds,e.length=sz) (B8:cells.size=cap*sz) (hc:ds.length<=cap) (hr:lK E.I ds.flatten cells.toList):
 ∃ E',bQ E' st w'/\Ext E st w E' st w'/\Rel E' (.sl none sz ds) (.slice (some ⟨w.heap.size,0,none⟩) ds.length cap):=by
 obtain ⟨E',s1,s2,s3⟩:=C3 hs none false Oh hh ho hl B8 hc hr
 dsimp only at s1 s2
 have hlp:∀ k,st.live k->(st.push false .spare).live k:=by
  rintro k ⟨o,hk⟩
  refine ⟨o,?_⟩
  rw [St.jT,if_neg,hk]
  intro e
  have:=hs.j8 k ⟨o,hk⟩
  rw [e,hs.aK] at this
  exact Env.jU E false this
 have hle:E.Le { E' with nl:=E.nl }:=⟨s2.le.jR,s2.le.ng,Nat.le_refl _,s2.le.loc⟩
 have qK:∀ k,st.live k->w'.heap[(E.μ k).bI]? =w.heap[(E.μ k).bI]? :=fun k hk=>by
  rw [hh,Array.getElem?_push,if_neg (Nat.ne_of_lt (hs.lt hk))]
 refine ⟨{ E' with nl:=E.nl },⟨?_,hs.nl,fun k hk=>hle.has (hs.j8 k hk),s1.jR,fun k o hk=>?_,fun k k' hk l5 dX=>?_,fun k hk=>s1.own k (hlp k hk)⟩,
  ⟨hle,s2.size,s2.fX,fun k hk _=>hk,fun k hk hn=>absurd (hs.j8 k hk) hn,s2.same,s2.os,s2.out,s2.tape⟩,?_⟩
 · have:=s1.ng
   simpa [St.push] using this
 · have:=(hs.obj k o hk).rK (Env.jS hle k) (qK k ⟨o,hk⟩)
   rw [show ({ E' with nl:=E.nl }:Env).μ k=E.μ k from hle.loc k (hs.j8 k ⟨o,hk⟩)]
   exact this
 · rw [hle.loc k (hs.j8 k hk),hle.loc k' (hs.j8 k' l5)]
   exact hs.sep k k' hk l5 dX
 · cases s3 with
   |deep hd=>cases hd
   |FU _ _ _ _ _ hk hd=>exact .deep hd
theorem Kv {sz:Nat} (hs:bQ E st w) (gone:Option Key) (g:Bool) {cells:Array Value} {t:TypeId} {fz:Nat×Nat} (Oh:tB sz fz cells.size) (hh:w'.heap=w.heap.push (.cells cells t fz)) (ho:qN w w')
 {cap:Nat} {ds:List (List V)} (hl:∀ e∈ds,e.length=sz) (B8:cells.size=cap*sz) (hc:ds.length<=cap) (hr:gX (E.Kd g) ds.flatten cells.toList):
 ∃ E',bQ E' ((match gone with|some k=>st.remove k|none=>st).push g (.arr sz ds)) w'/\Ext E st w E' ((match gone with|some k=>st.remove k|none=>st).push g (.arr sz ds)) w'/\
  Rel E' (.ms (st.aK g) sz 0 ds.length) (.slice (some ⟨w.heap.size,0,none⟩) ds.length cap):=by
 have CW:=cF hl
 have hle:ds.length*sz<=cells.size:=by rw [B8];exact Nat.mul_le_mul_right _ hc
 obtain ⟨E',s1,s2,s3,s4⟩:=hs.newRow gone g Oh hh ho (.arr sz ds) ds.flatten (fun F L _ h=>⟨hl,h⟩) (by omega) (fun j v hj=>let ⟨x,hx,h⟩:=hr j v hj;⟨x,by simpa using hx,h⟩)
 refine ⟨E',s1,s2,.ms _ _ _ _ _ _ s3 hc ?_ (by rw [s4]) (.inr ?_)⟩
 · rw [s4];simp [B8]
 · rw [s4];simp
theorem newSlice_ok {m:jQ} {sz:Nat} {es:List (List V)} {A:bK} (hw:(oZ m sz es st).wp A K) (hs:bQ E st w) {cells:Array Value} {t:TypeId} {fz:Nat×Nat} (Oh:tB sz fz cells.size)
 (hh:w'.heap=w.heap.push (.cells cells t fz)) (ho:qN w w') {cap:Nat} (hl:∀ e∈es,e.length=sz) (B8:cells.size=cap*sz) (hc:es.length<=cap) (hr:gX E es.flatten cells.toList):
 ∃ v bA E',K (v,bA)/\bQ E' bA w'/\Ext E st w E' bA w'/\Rel E' v (.slice (some ⟨w.heap.size,0,none⟩) es.length cap):=by
 cases m with
 |im g=>
  obtain ⟨ds,hd,hk⟩:=hw
  obtain ⟨h1,h2,h3⟩:=gW hd
  have Oi:lK E.I ds.flatten cells.toList:=by
   intro j d hj
   obtain ⟨v,hv,hvd⟩:=(lJ h1).2 j d hj
   obtain ⟨x,hx,AY,_⟩:=hr j v hv
   exact ⟨x,hx,Ah hvd AY⟩
  obtain ⟨E',s1,s2,s3⟩:=C3 hs none g Oh hh ho (h3 hl) B8 (by omega) Oi
  exact ⟨_,_,E',hk,s1,s2,by rw [h2] at s3;exact s3⟩
 |fz=>
  obtain ⟨ds,hd,hk⟩:=hw
  obtain ⟨h1,h2,h3⟩:=gW hd
  have Oi:lK E.I ds.flatten cells.toList:=by
   intro j d hj
   obtain ⟨v,hv,hvd⟩:=(lJ h1).2 j d hj
   obtain ⟨x,hx,AY,_⟩:=hr j v hv
   exact ⟨x,hx,Ah hvd AY⟩
  obtain ⟨E',s1,s2,s3⟩:=UJ hs Oh hh ho (h3 hl) B8 (by omega) Oi
  exact ⟨_,_,E',hk,s1,s2,by rw [h2] at s3;exact s3⟩
 |mu g=>
  obtain ⟨ds,hd,hk⟩:=hw
  obtain ⟨h1,h2,h3⟩:=lP hd
  have Oi:gX (E.Kd g) ds.flatten cells.toList:=by
   intro j d hj
   have hlen:=C0 h1
   have dZ:j<es.flatten.length:=by rw [<-hlen];exact (List.getElem?_eq_some_iff.1 hj).1
   obtain ⟨x,hx,AY,h1x⟩:=hr j _ (List.getElem?_eq_getElem dZ)
   have hrl:dY E es.flatten (cells.extract 0 es.flatten.length):=by
    have jN:es.flatten.length<=cells.size:=by rw [cF hl,B8];exact Nat.mul_le_mul_right _ hc
    refine ⟨by rw [Array.size_extract];omega,fun j v y hj hy=>?_⟩
    obtain ⟨z,hz,hrz,_⟩:=hr j v hj
    rw [Array.getElem?_extract] at hy
    split at hy
    · rw [Nat.zero_add] at hy
      rw [Array.getElem?_toList,hy] at hz
      cases hz;exact hrz
    · cases hy
   have:=tP h1 hrl
   refine ⟨x,hx,this.2 j d x hj ?_,h1x⟩
   have hc':j<cells.size:=by
    have:=(List.getElem?_eq_some_iff.1 hx).1
    simpa using this
   rw [Array.getElem?_extract,if_pos (by omega),Nat.zero_add]
   simpa using hx
  obtain ⟨E',s1,s2,s3⟩:=Kv hs none g Oh hh ho (h3 hl) B8 (by omega) Oi
  exact ⟨_,_,E',hk,s1,s2,by rw [h2] at s3 ⊢;exact s3⟩
end
open Go
structure PS (P:Program) (E:Env) (w:World) (sz:Nat) (x:Value) (es:List (List V)) (xs:List Value):Prop where
 OK:∀ e∈es,e.length=sz
 C4:xs.length=es.length*sz
 len:∀ w0:World,(Builtin.lenOf x).run P w0=.ok es.length w0
 first:∀ w0:World,w0.heap=w.heap->∀ n,n<=es.length->(Builtin.firstCells sz n x).run P w0=.ok (xs.take (n*sz)).toArray w0
 rel:gX E es.flatten xs
 one:∀ y∈xs,y.oneCell'=true
section
variable {P:Program} {E:Env} {st:St} {w:World} {K:R->Prop}
theorem o7:∀ l:List UInt8,(eE l).flatten=l.map fun c=>V.i .u8 c.toNat
 |[]=>rfl
 |c::r=>by
  have:=o7 r
  simp only [eE,List.map_cons,List.flatten_cons,List.singleton_append] at*
  rw [this]
theorem BG {sz:Nat} {es:List (List V)} {b off cap:Nat} (hl:∀ e∈es,e.length=sz) (hc:fI E w b off es.flatten) (len:Nat) (hlen:len=es.length):
 ∃ xs,PS P E w sz (.slice (some ⟨b,off,none⟩) len cap) es xs:=by
 subst hlen
 obtain ⟨xs,h1,h2,h3,h4⟩:=hc.list
 have CW:=cF hl
 refine ⟨xs,hl,by omega,fun w0=>by simp [Builtin.lenOf],fun w0 hw n hn=>?_,fun j v hj=>?_,h4⟩
 · refine run_firstCells_some (P:=P) w0 sz n ⟨b,off,none⟩ es.length cap (xs.take (n*sz)) ?_ fun j v hj=>?_
   · rw [List.length_take]
     have:n*sz<=es.length*sz:=Nat.mul_le_mul_right _ hn
     omega
   · rw [List.getElem?_take] at hj
     split at hj
     · rw [Addr.add_mid]
       have:=h2 j v hj
       rw [o4] at this ⊢
       simpa [bF,hw] using this
     · cases hj
 · obtain ⟨x,hx,hr⟩:=h3.get hj
   have hx':xs[j]? =some x:=by simpa using hx
   exact ⟨x,hx',hr,h4 x (List.mem_of_getElem? hx')⟩
theorem sI {sz:Nat} {x:Value} (hl:∀ w0:World,(Builtin.lenOf x).run P w0=.ok 0 w0) (hf:∀ w0:World,(Builtin.firstCells sz 0 x).run P w0=.ok #[] w0):PS P E w sz x [] [] where
 OK e he:=by cases he
 C4:=by simp
 len:=hl
 first w0 _ n hn:=by
  obtain rfl:n=0:=by simpa using hn
  simpa using hf w0
 rel j v hj:=by simp at hj
 one y hy:=by cases hy
theorem elems_ok {sz:Nat} {v:V} {x:Value} {A:bK} {k:List (List V)->T R} (hs:bQ E st w) (hr:Rel E v x) (hw:(fP sz st v k).wp A K):
 ∃ es xs,(k es).wp A K/\PS P E w sz x es xs:=by
 unfold fP at hw
 split at hw
 · cases hr with
   |deep hd=>
    cases hd
    exact ⟨[],[],hw,sI (fun w0=>by simp [Builtin.lenOf]) (fun w0=>by simp [Builtin.firstCells])⟩
 · rename_i tok eD es
   split at hw
   case isFalse=>exact hw.elim
   rename_i hz
   subst hz
   have fin:∀ {x:Value},eH E.I (.sl none eD es) x->∃ xs,PS P E w eD x es xs:=by
    intro x hd
    cases hd with
    |mM=>exact ⟨[],sI (fun w0=>by simp [Builtin.lenOf]) (fun w0=>by simp [Builtin.firstCells])⟩
    |Oz _ a hs=>exact ⟨[],sI (fun w0=>by simp [Builtin.lenOf]) (fun w0=>by simp [Builtin.firstCells,loadCells,loadCellsFrom])⟩
    |sl _ _ bI off cap val hc hl hv hr=>exact BG hl (hs.UC hv hr) _ rfl
   cases hr with
   |deep hd=>
    cases hd with
    |mM=>obtain ⟨xs,h⟩:=fin (.mM (I:=E.I) eD);exact ⟨_,xs,hw,h⟩
    |Oz _ a hs=>obtain ⟨xs,h⟩:=fin (.Oz (I:=E.I) eD a hs);exact ⟨_,xs,hw,h⟩
    |sl _ _ bI off cap val hc hl hv hr=>obtain ⟨xs,h⟩:=fin (.sl eD es bI off cap val hc hl hv hr);exact ⟨_,xs,hw,h⟩
   |FU k _ _ a cap hk hd _ _=>obtain ⟨xs,h⟩:=fin hd;exact ⟨_,xs,hw,h⟩
 · rename_i key eD s n
   split at hw
   case isFalse=>exact hw.elim
   rename_i hz
   subst hz
   obtain ⟨ob,eQ,hw⟩:=hw
   dsimp only at hw
   split at hw
   case h_2=>exact hw.elim
   rename_i eP es
   split at hw
   case isFalse=>exact hw.elim
   rename_i hz
   subst hz
   obtain ⟨qM,hw⟩:=hw
   have qM:s+n<=es.length:=by simpa using qM
   have hlen:((es.drop s).take n).length=n:=by simp;omega
   cases hr with
   |deep hd=>cases hd
   |ms _ _ _ _ a cap hk hc hf hb ha=>
    have Q3:=hs.obj key _ eQ
    rcases ha with h0|ha
    · have hn:n=0:=by omega
      subst hn
      have:(es.drop s).take 0=[]:=by simp
      rw [this] at hw
      exact ⟨[],[],hw,sI (fun w0=>by simp [Builtin.lenOf]) (fun w0=>by simp [Builtin.firstCells,loadCells,loadCellsFrom])⟩
    · subst ha
      have hl:∀ e∈(es.drop s).take n,e.length=eP:=fun e he=>Q3.1 e (List.mem_of_mem_drop (List.mem_of_mem_take he))
      have yF:∀ e∈es.drop s,e.length=eP:=fun e he=>Q3.1 e (List.mem_of_mem_drop he)
      have mN:=(Q3.2.sG.mono (E.Aa key)).sub (s*eP) (n*eP)
      rw [<-lI Q3.1,<-lH yF] at mN
      obtain ⟨xs,hx⟩:=BG (P:=P) (cap:=cap) hl mN n hlen.symm
      exact ⟨_,xs,hw,hx⟩
 · rename_i l
   split at hw
   case isFalse=>exact hw.elim
   rename_i hz
   subst hz
   have hx:=hr.B3
   subst hx
   have jN:(str l).size=l.length:=by simp [str,ByteArray.size]
   refine ⟨eE l,l.map fun c=>.int .u8 c.toNat,hw,?_,by simp [eE],fun w0=>by simp [Builtin.lenOf,eE,jN],?_,?_,?_⟩
   · intro e he
     simp only [eE,List.mem_map] at he
     obtain ⟨c,_,rfl⟩:=he
     rfl
   · intro w0 _ n hn
     simp only [eE,List.length_map] at hn
     simp only [Builtin.firstCells,Sem.run_pure,Nat.mul_one]
     congr 1
     apply Array.ext'
     simp [str,ByteArray.data_extract,List.map_take]
   · intro j v hj
     rw [o7,List.getElem?_map] at hj
     cases hc:l[j]? with
     |none=>rw [hc] at hj;cases hj
     |some c=>
      rw [hc] at hj
      simp only [Option.map_some,Option.some.injEq] at hj
      subst hj
      exact ⟨.int .u8 c.toNat,by simp [hc],.deep (.i _ _),rfl⟩
   · intro y hy
     simp only [List.mem_map] at hy
     obtain ⟨c,_,rfl⟩:=hy
     rfl
 · exact hw.elim
def qV (P:Program) (t:Option TypeId):Bool:=
 match t with
 |some u=>match P.underlying u with
  |some (.int _)=>false
  |some _=>true
  |none=>false
 |none=>true
theorem A5 {u:TypeId} {d:TypeDesc} (hq:P.underlying u=some d) (hz:qV P (some u)=true):∀ k,d≠.int k:=by
 intro k hk
 subst hk
 simp [qV,hq] at hz
theorem eS {α β:Type} {X:Result α} {F:α->World->Result β} {x:α} {w':World} {Y:Result β} (hX:X=.ok x w') (h:F x w'=Y):X.andThen F=Y:=by rw [hX];exact h
theorem qW {ts:Array TypeId} {t ty el:TypeId} {i:TypeInfo} {x:Value} {n:Nat} {xs:List Value} (ht:ts[0]? =some t) (hu:P.underlying t=some (.slice el)) (hi:P.info? el=some i) (hz:qV P ts[1]? =true)
 (hlen:(Builtin.lenOf x).run P w=.ok n w) (B9:(Builtin.firstCells i.size n x).run P w=.ok xs.toArray w) (b off l8 wU:Nat) (rP:l8+n<=wU) (hth:w.there b (off+l8*i.size) xs.length) (h1:∀ y∈xs,y.oneCell'=true):
 (Builtin.append_ ts ty #[.slice (some ⟨b,off,none⟩) l8 wU,x]).run P w=.ok (.slice (some ⟨b,off,none⟩) (l8+n) wU) (w.setCells b (off+l8*i.size) xs):=by
 have CA:=run_storeCells_cells (P:=P) b (off+l8*i.size) xs 0 w (fun j hj=>by simpa using (hth j hj).1) (fun j hj=>by simpa using (hth j hj).2) h1
 simp only [Nat.add_zero] at CA
 unfold Builtin.append_
 simp only [ht,List.getElem?_toArray,List.getElem?_cons_zero,List.getElem?_cons_succ,Sem.run_bind,run_underlying hu,Result.andThen_ok]
 refine eS (x:=i.size) (w':=w) (by simp [sizeOf,typeInfo,hi]) ?_
 cases h:ts[1]? with
 |none=>
  simp [hlen,rP,B9,Addr.add_mid,CA]
 |some u=>
  rw [h] at hz
  cases hq:P.underlying u with
  |none=>simp [qV,hq] at hz
  |some d=>
   have dX:=A5 hq hz
   simp only [Sem.run_bind,run_underlying hq,Result.andThen_ok]
   refine eS (x:=false) (w':=w) (by cases d<;>first|exact absurd rfl (dX _)|simp) ?_
   simp [hlen,rP,B9,Addr.add_mid,CA]
theorem l9 {ts:Array TypeId} {t ty el:TypeId} {i:TypeInfo} {x:Value} (ht:ts[0]? =some t) (hu:P.underlying t=some (.slice el)) (hi:P.info? el=some i) (hz:qV P ts[1]? =true)
 (hlen:(Builtin.lenOf x).run P w=.ok 0 w) (B9:(Builtin.firstCells i.size 0 x).run P w=.ok #[] w) (b:Option Addr) (l8 wU:Nat) (rP:l8<=wU):
 (Builtin.append_ ts ty #[.slice b l8 wU,x]).run P w=.ok (.slice b l8 wU) w:=by
 unfold Builtin.append_
 simp only [ht,List.getElem?_toArray,List.getElem?_cons_zero,List.getElem?_cons_succ,Sem.run_bind,run_underlying hu,Result.andThen_ok]
 refine eS (x:=i.size) (w':=w) (by simp [sizeOf,typeInfo,hi]) ?_
 cases h:ts[1]? with
 |none=>
  cases b<;>simp [hlen,rP,B9,storeCells]
 |some u=>
  rw [h] at hz
  cases hq:P.underlying u with
  |none=>simp [qV,hq] at hz
  |some d=>
   have dX:=A5 hq hz
   simp only [Sem.run_bind,run_underlying hq,Result.andThen_ok]
   refine eS (x:=false) (w':=w) (by cases d<;>first|exact absurd rfl (dX _)|simp) ?_
   cases b<;>simp [hlen,rP,B9,storeCells]
theorem o8 {ts:Array TypeId} {t ty el:TypeId} {i:TypeInfo} {z:Value} {x:Value} {n:Nat} {xs ys:List Value} (ht:ts[0]? =some t) (hu:P.underlying t=some (.slice el)) (hi:P.info? el=some i) (CX:i.zero=some z) (hz:qV P ts[1]? =true)
 (hlen:(Builtin.lenOf x).run P w=.ok n w) (B9:(Builtin.firstCells i.size n x).run P w.drew=.ok xs.toArray w.drew) (b:Option Addr) (l8 wU:Nat)
 (hold:(Builtin.firstCells i.size l8 (.slice b l8 wU)).run P w.drew=.ok ys.toArray w.drew) (hg:wU<l8+n) (hb:(l8+n)*i.bytes<=140737488355328) (h63:l8+n<=9223372036854775807):
 (Builtin.append_ ts ty #[.slice b l8 wU,x]).run P w=.ok (.slice (some ⟨w.heap.size,0,none⟩) (l8+n) (grownCap w (l8+n) wU el))
   (w.drew.alloc (.cells (ys.toArray++xs.toArray++Builtin.zeroCells z.cells (grownCap w (l8+n) wU el - (l8+n))) el)):=by
 have hn:¬(l8+n<=wU):=by omega
 have anI:¬(9223372036854775807<((l8:Int)+(n:Int))):=by omega
 have B5:=growslice_fits (need:=l8+n) (old:=wU) (bytes:=i.bytes) hg hb
 have anJ:¬(281474976710656<Builtin.nextslicecap (l8+n) wU*i.bytes):=by omega
 unfold Builtin.append_
 simp only [ht,List.getElem?_toArray,List.getElem?_cons_zero,List.getElem?_cons_succ,Sem.run_bind,run_underlying hu,Result.andThen_ok]
 refine eS (x:=i.size) (w':=w) (by simp [sizeOf,typeInfo,hi]) ?_
 cases h:ts[1]? with
 |none=>
  simp [typeInfo,zeroValue,hi,CX,hlen,hn,anI,anJ,Question.forced,B9,hold,newRow,grownCap]
  congr 2
  apply Array.ext'
  simp [List.append_assoc]
 |some u=>
  rw [h] at hz
  cases hq:P.underlying u with
  |none=>simp [qV,hq] at hz
  |some d=>
   have dX:=A5 hq hz
   simp only [Sem.run_bind,run_underlying hq,Result.andThen_ok]
   refine eS (x:=false) (w':=w) (by cases d<;>first|exact absurd rfl (dX _)|simp) ?_
   simp [typeInfo,zeroValue,hi,CX,hlen,hn,anI,anJ,Question.forced,B9,hold,newRow,grownCap]
   congr 2
   apply Array.ext'
   simp [List.append_assoc]
end
open Go
def EG (P:Program) (el:TypeId) (sz bytes:Nat):Bool:=
 match P.info? el with
 |some i=>decide (i.size=sz)&&decide (i.bytes=bytes)&&decide (0<sz)&&decide (0<bytes)&&(match i.zero with
  |some z=>decide (z.cells.size=sz)
  |none=>false)
 |none=>false
theorem vY {P:Program} {el:TypeId} {sz bytes:Nat} (h:EG P el sz bytes=true):
 ∃ i z,P.info? el=some i/\i.zero=some z/\i.size=sz/\i.bytes=bytes/\0<sz/\0<bytes/\z.cells.size=sz:=by
 unfold EG at h
 split at h
 · rename_i i hi
   simp only [Bool.and_eq_true,decide_eq_true_eq] at h
   obtain ⟨⟨⟨⟨h1,h2⟩,h3⟩,h4⟩,h5⟩:=h
   split at h5
   · rename_i z hz
     exact ⟨i,z,hi,hz,h1,h2,h3,h4,by simpa using h5⟩
   · cases h5
 · cases h
theorem Aj {E:Env} {aEo bs:List V} {ys xs:List Value} (ha:gX E aEo ys) (hl:ys.length=aEo.length) (hb:gX E bs xs) (rest:List Value):gX E (aEo++bs) (ys++xs++rest):=by
 intro j v hj
 rw [List.getElem?_append] at hj
 split at hj
 · rename_i dZ
   obtain ⟨x,hx,h⟩:=ha j v hj
   refine ⟨x,?_,h⟩
   rw [List.append_assoc,List.getElem?_append_left (by omega)]
   exact hx
 · rename_i dZ
   obtain ⟨x,hx,h⟩:=hb _ v hj
   have Uu:=(List.getElem?_eq_some_iff.1 hx).1
   refine ⟨x,?_,h⟩
   rw [List.getElem?_append_left (by rw [List.length_append];omega),List.getElem?_append_right (by omega),hl]
   exact hx
theorem EH {I:zZ} {aEo bs:List V} {ys xs:List Value} (ha:lK I aEo ys) (hl:ys.length=aEo.length) (hb:lK I bs xs) (rest:List Value):lK I (aEo++bs) (ys++xs++rest):=by
 intro j v hj
 rw [List.getElem?_append] at hj
 split at hj
 · rename_i dZ
   obtain ⟨x,hx,h⟩:=ha j v hj
   refine ⟨x,?_,h⟩
   rw [List.append_assoc,List.getElem?_append_left (by omega)]
   exact hx
 · rename_i dZ
   obtain ⟨x,hx,h⟩:=hb _ v hj
   have Uu:=(List.getElem?_eq_some_iff.1 hx).1
   refine ⟨x,?_,h⟩
   rw [List.getElem?_append_left (by rw [List.length_append];omega),List.getElem?_append_right (by omega),hl]
   exact hx
theorem gX.deep {E:Env} {cs ds:List V} {xs:List Value} (h:k9 cs=some ds) (hr:gX E cs xs):lK E.I ds xs:=by
 intro j d hj
 obtain ⟨v,hv,hvd⟩:=(lJ h).2 j d hj
 obtain ⟨x,hx,AY,_⟩:=hr j v hv
 exact ⟨x,hx,Ah hvd AY⟩
theorem gX.own {E:Env} {g:Bool} {cs ds:List V} {xs:List Value} (h:rH g cs=some ds) (hl:xs.length=cs.length) (hr:gX E cs xs):gX (E.Kd g) ds xs:=by
 have hrl:dY E cs xs.toArray:=⟨by simpa using hl,fun j v y hj hy=>by
  obtain ⟨z,hz,hrz,_⟩:=hr j v hj
  have:xs[j]? =some y:=by simpa using hy
  rw [this] at hz;cases hz;exact hrz⟩
 have h2:=tP h hrl
 intro j d hj
 have dZ:j<cs.length:=by rw [<-C0 h];exact (List.getElem?_eq_some_iff.1 hj).1
 obtain ⟨x,hx,_,h1⟩:=hr j _ (List.getElem?_eq_getElem dZ)
 exact ⟨x,hx,h2.2 j d x hj (by simpa using hx),h1⟩
theorem gX.anK {E:Env} {cs:List V} {xs:List Value} (hl:xs.length=cs.length) (hr:gX E cs xs):dY E cs xs.toArray:=⟨by simpa using hl,fun j v y hj hy=>by
 obtain ⟨z,hz,hrz,_⟩:=hr j v hj
 have:xs[j]? =some y:=by simpa using hy
 rw [this] at hz;cases hz;exact hrz⟩
section
variable {P:Program} {o:Oper} {a:Act} {E:Env} {N:Nat} {st:St} {w:World} {fr:Fr} {next:Act->World->Prop} {Q:Exit->Act->World->Prop} {K:R->Prop}
theorem fJ {s x:Operand} {ts:Array TypeId} {v:Value} {w':World} (ho:o.op=.call { callee:=.builtin .append,args:=#[s,x],argTypes:=ts })
 (h:(Builtin.append_ ts o.type #[a.eval s,a.eval x]).run P w=.ok v w'):(execOp a.eval o).run P w=.ok (.value v) w':=by
 simp [execOp,ho,resolve,invoke,builtin,h,Result.andThen]
theorem Ak {n bytes:Nat} (h:gO n bytes=true) (hb:0<bytes):n*bytes<=140737488355328/\n<=9223372036854775807:=by
 have h1:n*bytes<=140737488355328:=by first|(simp [gO];done)|simpa [gO] using h
 have h2:n*1<=n*bytes:=Nat.mul_le_mul_left _ hb
 exact ⟨h1,by omega⟩
theorem tV {ys xs:List Value} {z:Array Value} {n:Nat}:(ys.toArray++xs.toArray++Builtin.zeroCells z n).toList=ys++xs++(Builtin.zeroCells z n).toList:=by simp
theorem yG {ys xs:List Value} {z:Array Value} {n sz p q cap:Nat} (h1:ys.length=p*sz) (h2:xs.length=q*sz) (hz:z.size=sz) (hn:n=cap - (p+q)) (hc:p+q<=cap):
 (ys.toArray++xs.toArray++Builtin.zeroCells z n).size=cap*sz:=by
 have hs:ys.toArray.size+xs.toArray.size=(p+q)*sz:=by rw [List.size_toArray,List.size_toArray,h1,h2,Nat.add_mul]
 rw [Array.size_append,Array.size_append,size_zeroCells,hz,hs,hn,<-Nat.add_mul]
 congr 1;omega
theorem lL (w:World) (ob:Go.Obj):(w.drew.alloc ob).heap=w.heap.push ob:=rfl
theorem A6 (w:World) (ob:Go.Obj):qN w (w.drew.alloc ob):=⟨rfl,rfl,rfl⟩
theorem PT {sz:Nat} {es ds:List (List V)} (hl:∀ e∈es,e.length=sz) (hd:∀ e∈ds,e.length=sz) {p:Nat} (qM:p+ds.length<=es.length):
 (es.take p++ds++es.drop (p+ds.length)).flatten=cS es.flatten (p*sz) ds.flatten:=by
 have UK:=cF hl
 have UL:=cF hd
 have hmul:(p+ds.length)*sz<=es.length*sz:=Nat.mul_le_mul_right _ qM
 rw [Nat.add_mul] at hmul
 rw [List.flatten_append,List.flatten_append,lH hl,lI hl,Nat.add_mul]
 apply List.ext_getElem?
 intro j
 rw [gT _ _ _ _ (by omega)]
 have dZ:(es.flatten.take (p*sz)).length=p*sz:=by rw [List.length_take];omega
 by_cases h1:j<p*sz
 · rw [List.getElem?_append_left (by rw [List.length_append,dZ];omega),List.getElem?_append_left (by omega),if_neg (by omega),List.getElem?_take,if_pos h1]
 · by_cases h2:j<p*sz+ds.flatten.length
   · rw [if_pos (by omega),List.getElem?_append_left (by rw [List.length_append,dZ];omega),List.getElem?_append_right (by omega),dZ]
   · rw [if_neg (by omega),List.getElem?_append_right (by rw [List.length_append,dZ];omega),List.length_append,dZ,List.getElem?_drop]
     congr 1;omega
theorem step_append {s x:Operand} {d e:bH} {ts:Array TypeId} {t el:TypeId} {m:jQ} {sz bytes:Nat} (ho:o.op=.call { callee:=.builtin .append,args:=#[s,x],argTypes:=ts })
 (ht:ts[0]? =some t) (hu:P.underlying t=some (.slice el)) (Ij:EG P el sz bytes=true) (hz:qV P ts[1]? =true) (hx:cZ s d=true) (hy:cZ x e=true)
 (hs:bQ E st w) (hf:aS E N fr a) (hw:(step (.append m sz bytes d e) fr st).wp (aE P) K) (hc:eX E st w o a next K):o.wp P a w next Q:=by
 obtain ⟨i,z,hi,CX,jN,hby,Kw,OL,hzs⟩:=vY Ij
 subst jN
 subst hby
 have PU:=aQ hx hf
 have hr2:=aQ hy hf
 simp only [step] at hw
 obtain ⟨new,xs,hw,rE⟩:=elems_ok (P:=P) hs hr2 hw
 have CW:=cF rE.OK
 have B9:(Builtin.firstCells i.size new.length (a.eval x)).run P w=.ok xs.toArray w:=by
  have:=rE.first w rfl new.length (Nat.le_refl _)
  rwa [<-rE.C4,List.take_length] at this
 have aiX:(Builtin.firstCells i.size new.length (a.eval x)).run P w.drew=.ok xs.toArray w.drew:=by
  have:=rE.first w.drew rfl new.length (Nat.le_refl _)
  rwa [<-rE.C4,List.take_length] at this
 have aiY:(Builtin.firstCells i.size 0 (a.eval x)).run P w=.ok #[] w:=by
  have:=rE.first w rfl 0 (Nat.zero_le _)
  simpa using this
 have hlen:=rE.len w
 unfold iM at hw
 split at hw
 · -- nil
   rename_i e1
   rw [e1] at PU
   have T6:a.eval s=.slice none 0 0:=by
    generalize a.eval s=y at PU
    cases PU with
    |deep hd=>cases hd;rfl
   split at hw
   · refine aP (x:=.slice none 0 0) (fJ ho ?_) (hc.same hs hw (.deep .aB))
     rw [T6]
     exact l9 ht hu hi hz hlen aiY none 0 0 (Nat.le_refl _)
   · rename_i e0 r0
     obtain ⟨rP,hw⟩:=hw
     obtain ⟨T4,hb2⟩:=Ak rP OL
     have dO:=o8 (ty:=o.type) (ys:=[]) ht hu hi CX hz hlen aiX none 0 0 (by simp [Builtin.firstCells]) (by simp) (by simpa using T4) (by simpa using hb2)
     rw [Nat.zero_add] at dO
     have PV:=grownCap_ge w (e0::r0).length 0 el
     have s0:=yG (ys:=[]) (xs:=xs) (z:=z.cells) (n:=grownCap w (e0::r0).length 0 el - (e0::r0).length) (p:=0) (q:=(e0::r0).length) (cap:=grownCap w (e0::r0).length 0 el) (by simp) rE.C4 hzs (by simp) (by simpa using PV)
     obtain ⟨v,bA,E',hk,s1,s2,l7⟩:=newSlice_ok (w':=w.drew.alloc _) hw hs (fz:=(0,0)) (.inl rfl) (lL w _) (A6 w _) rE.OK s0 PV
      (by rw [tV];exact Aj (aEo:=[]) (fun j v hj=>by simp at hj) rfl rE.rel _)
     refine aP (fJ ho (by rw [T6];exact dO)) (hc _ _ E' _ _ hk s1 s2 l7)
 · -- amO elements
   rename_i tok eD es e1
   rw [e1] at PU
   split at hw
   case isFalse=>exact hw.elim
   rename_i hzz
   subst hzz
   split at hw
   · generalize T6:a.eval s=y at PU
     have:∃ b n c,y=.slice b n c/\n<=c:=by
      cases PU with
      |deep hd=>
       cases hd with
       |mM=>exact ⟨_,_,_,rfl,Nat.le_refl _⟩
       |Oz=>exact ⟨_,_,_,rfl,Nat.le_refl _⟩
       |sl _ _ _ _ _ _ hc1=>exact ⟨_,_,_,rfl,hc1⟩
      |FU _ _ _ _ _ _ hd EI _=>
       cases hd with
       |Oz _ _ hs=>exact absurd EI.2 hs
       |sl _ _ _ _ _ _ hc1=>exact ⟨_,_,_,rfl,hc1⟩
     obtain ⟨b,n,c,rfl,hnc⟩:=this
     refine aP (x:=.slice b n c) (fJ ho ?_) (hc.same hs hw PU)
     rw [T6]
     exact l9 ht hu hi hz hlen aiY b n c hnc
   · rename_i e0 r0
     obtain ⟨rP,ds,iV,hw⟩:=hw
     obtain ⟨T4,hb2⟩:=Ak rP OL
     split at hw
     case h_2=>exact hw.elim
     rename_i k
     obtain ⟨ob,eQ,hw⟩:=hw
     dsimp only at hw
     split at hw
     case h_2=>exact hw.elim
     obtain ⟨EJ,Kx,Oj⟩:=gW iV
     have Oj:=Oj rE.OK
     have Oi:lK E.I ds.flatten xs:=rE.rel.deep EJ
     have hn:(e0::r0).length=ds.length:=Kx.symm
     generalize T6:a.eval s=y at PU
     cases PU with
     |deep hd=>cases hd
     |FU _ _ _ ad cap hk hd anN hh=>
     have EI:=anN.1
     cases hd with
     |Oz _ _ hs=>exact absurd anN.2 hs
     |sl _ _ bI off _ val Q4 hl hv hr=>
     have UK:=cF hl
     have UL:=cF Oj
     by_cases hg:es.length+ds.length<=cap
     · -- there is room
       have C5:0<ds.length:=by rw [<-hn];simp
       have hh:off+es.length*i.size=(E.μ k).base/\off+cap*i.size=(E.μ k).fin:=by
        rcases hh with h|h
        · omega
        · exact h
       obtain ⟨hh2,hh3⟩:=hh
       have UM:bI=(E.μ k).bI:=EI
       obtain ⟨cells,ty,fz,r1,r2,r3,r4,r5⟩:=hs.obj k _ eQ
       have hmul:(es.length+ds.length)*i.size<=cap*i.size:=Nat.mul_le_mul_right _ hg
       rw [Nat.add_mul] at hmul
       have Q5:xs.length=ds.length*i.size:=by rw [rE.C4,hn]
       have aw8:(E.μ k).base+xs.length<=(E.μ k).fin:=by omega
       have hth:w.there bI (off+es.length*i.size) xs.length:=by
        rw [UM,hh2]
        exact Row.there r1 r2 (by omega)
       have dO:=qW (ty:=o.type) ht hu hi hz hlen B9 bI off es.length cap (by rw [hn];exact hg) hth rE.one
       rw [UM,hh2] at dO
       obtain ⟨q1,q2,q3,q4⟩:=lO (E.μ k).bI xs (E.μ k).base w
       have UN:(w.setCells (E.μ k).bI (E.μ k).base xs).heap[(E.μ k).bI]? =some (.cells (rN cells (E.μ k).base xs) ty fz):=iP _ xs _ w r1
       have mN:∀ j,bF (w.setCells (E.μ k).bI (E.μ k).base xs) (E.μ k).bI j=if (E.μ k).base<=j/\j<(E.μ k).base+xs.length then xs[j - (E.μ k).base]? else cells[j]? :=by
        intro j
        simp only [bF,UN]
        exact lG _ _ _ _ (by omega)
       have lA:st.live k:=⟨_,eQ⟩
       obtain ⟨s1,s2⟩:=hs.move (w':=w.setCells (E.μ k).bI (E.μ k).base xs) eQ k.rD ⟨(E.μ k).bI,(E.μ k).base+xs.length,(E.μ k).fin⟩
        (fun j=>if (E.μ k).base<=j/\j<(E.μ k).base+xs.length then xs[j - (E.μ k).base]? else none) .spare rfl (by simp) (by simp) q1 (fun b dX=>jV _ dX _ _ _) q2 q3 q4
        (fun j x hx=>by
          have h1:=hs.jR _ _ _ hx
          rw [mN]
          split
          · rename_i qM
            have:=hs.own k lA j qM.1 (by omega)
            rw [this] at hx;cases hx
          · simpa [bF,r1] using h1)
        (fun j x hx=>by
          split at hx
          · rename_i qM
            refine ⟨by rw [mN,if_pos qM];exact hx,?_⟩
            simp only;omega
          · cases hx)
        ⟨_,ty,fz,UN,by rw [gR];exact r2,by simpa using aw8,by rw [gR];exact r4,fun j v hj=>by simp at hj⟩
       refine aP (fJ ho (by rw [T6];rw [UM];exact dO)) (hc _ _ _ _ _ hw s1 s2 ?_)
       have Um:=hs.aK k.rD
       rw [St.iO,Um]
       have hIn:∀ j,(E.μ k).base<=j->j<(E.μ k).base+xs.length->E.I (E.μ k).bI j=none:=fun j a b=>hs.own k lA j a (by omega)
       have anO:es.length+(e0::r0).length=(es++ds).length:=by rw [List.length_append,hn]
       rw [anO]
       have aw9:=Oi.mono s2.le.jR
       refine .FU _ _ _ _ _ (Env.eI _ _ _ _) (.sl _ _ _ _ _ (fun j=>if j<es.length*i.size then val j else xs.getD (j - es.length*i.size) default) (by rw [List.length_append];exact hg) (fun e he=>by
        rcases List.mem_append.1 he with h|h
        · exact hl e h
        · exact Oj e h) (fun j d hj=>?_) (fun j d hj=>?_)) (by rw [Env.e9];exact ⟨rfl,rfl⟩) (.inr ?_)
       · rw [List.flatten_append] at hj
         by_cases Ca:j<es.length*i.size
         · rw [List.getElem?_append_left (by omega)] at hj
           rw [if_pos Ca]
           have:=hv j d hj
           rw [UM] at this
           exact s2.le.jR _ _ _ this
         · rw [List.getElem?_append_right (by omega),UK] at hj
           rw [if_neg Ca]
           have hjx:j - es.length*i.size<xs.length:=by
            have:=(List.getElem?_eq_some_iff.1 hj).1
            omega
           simp only [Env.push]
           rw [hIn (off+j) (by omega) (by omega)]
           simp only [if_true]
           rw [if_pos (by omega),show off+j - (E.μ k).base=j - es.length*i.size by omega]
           simp [hjx]
       · rw [List.flatten_append] at hj
         by_cases Ca:j<es.length*i.size
         · rw [List.getElem?_append_left (by omega)] at hj
           rw [if_pos Ca]
           exact (hr j d hj).mono s2.le.jR
         · rw [List.getElem?_append_right (by omega),UK] at hj
           rw [if_neg Ca]
           obtain ⟨x0,hx0,AY⟩:=aw9 _ d hj
           simp only [List.getD_eq_getElem?_getD,hx0]
           exact AY
       · rw [Env.e9]
         refine ⟨?_,?_⟩
         · simp only [List.length_append,Nat.add_mul];omega
         · exact hh3
     · -- a new block
       have hold:(Builtin.firstCells i.size es.length (.slice (some ⟨bI,off,none⟩) es.length cap)).run P w.drew=.ok ((List.range (es.length*i.size)).map val).toArray w.drew:=by
        refine run_firstCells_some (P:=P) w.drew i.size es.length ⟨bI,off,none⟩ es.length cap _ (by simp) fun j v hj=>?_
        rw [Addr.add_mid]
        rw [List.getElem?_map] at hj
        have dZ:j<es.length*i.size:=by
         rcases Nat.lt_or_ge j (es.length*i.size) with h|h
         · exact h
         · rw [List.getElem?_eq_none (by simp;omega)] at hj;cases hj
        rw [List.getElem?_range dZ] at hj
        simp only [Option.map_some,Option.some.injEq] at hj
        subst hj
        have hex:∃ dd,es.flatten[j]? =some dd:=⟨es.flatten[j],by simp⟩
        obtain ⟨dd,FX⟩:=hex
        have:=hs.jR _ _ _ (hv j dd FX)
        rw [o4]
        exact this
       have dO:=o8 (ty:=o.type) ht hu hi CX hz hlen aiX (some ⟨bI,off,none⟩) es.length cap hold (by omega) T4 hb2
       have PV:=grownCap_ge w (es.length+(e0::r0).length) cap el
       have s0:=yG (ys:=(List.range (es.length*i.size)).map val) (xs:=xs) (z:=z.cells) (p:=es.length) (q:=(e0::r0).length) (by simp) rE.C4 hzs rfl PV
       have anP:lK E.I es.flatten ((List.range (es.length*i.size)).map val):=by
        intro j d hj
        have dZ:j<es.length*i.size:=by rw [<-UK];exact (List.getElem?_eq_some_iff.1 hj).1
        exact ⟨val j,by simp [dZ],hr j d hj⟩
       obtain ⟨E',s1,s2,l7⟩:=C3 (z:=1) (w':=w.drew.alloc _) hs (some k) k.rD (fz:=(0,0)) (.inl rfl) (lL w _) (A6 w _) (ds:=es++ds) (fun e he=>by
        rcases List.mem_append.1 he with h|h
        · exact hl e h
        · exact Oj e h) s0 (by rw [List.length_append,<-hn];exact PV)
        (by rw [tV,List.flatten_append];exact EH anP (by simp [UK]) Oi _)
       refine aP (fJ ho (by rw [T6];exact dO)) (hc _ _ E' _ _ hw s1 s2 ?_)
       rw [List.length_append,<-hn] at l7
       rw [St.iO]
       exact l7
 · -- elements aeF may be written
   rename_i k eD off len e1
   rw [e1] at PU
   split at hw
   case isFalse=>exact hw.elim
   rename_i hzz
   subst hzz
   generalize T6:a.eval s=y at PU
   cases PU with
   |deep hd=>cases hd
   |ms _ _ _ _ ad cap hk Q4 hh EI ha=>
   split at hw
   · refine aP (x:=.slice (some ad) len cap) (fJ ho ?_) (hc.same hs hw (.ms _ _ _ _ _ _ hk Q4 hh EI ha))
     rw [T6]
     exact l9 ht hu hi hz hlen aiY (some ad) len cap Q4
   · rename_i e0 r0
     obtain ⟨rP,ds,iV,ob,eQ,hw⟩:=hw
     obtain ⟨T4,hb2⟩:=Ak rP OL
     dsimp only at hw
     split at hw
     case h_2=>exact hw.elim
     rename_i eP es
     split at hw
     case isFalse=>exact hw.elim
     rename_i hzz
     subst hzz
     obtain ⟨qM,hw⟩:=hw
     have qM:off+len<=es.length:=by simpa using qM
     obtain ⟨EJ,Kx,Oj⟩:=lP iV
     have Oj:=Oj rE.OK
     have hn:(e0::r0).length=ds.length:=Kx.symm
     have Oi:gX (E.Kd k.rD) ds.flatten xs:=rE.rel.own EJ (by rw [rE.C4,CW])
     obtain ⟨hl,cells,ty,fz,r1,r2,r3,r4,r5⟩:=hs.obj k _ eQ
     have UK:=cF hl
     have UL:=cF Oj
     have Q5:xs.length=ds.length*i.size:=by rw [rE.C4,hn]
     have axA:=Oi.anK (by rw [Q5,UL])
     have C5:0<ds.length:=by rw [<-hn];simp
     have sH:es.length<=off+cap:=by
      have:es.length*i.size<=(off+cap)*i.size:=by omega
      exact Nat.le_of_mul_le_mul_right this Kw
     have lA:st.live k:=⟨_,eQ⟩
     have hll:len+(e0::r0).length=len+ds.length:=by rw [hn]
     rw [Nat.add_mul] at hh
     by_cases B5:off+len+ds.length<=es.length
     · -- in OM is known
       have Ol:=hw.1 (by simpa using B5)
       have Im:len+ds.length<=cap:=by omega
       have ha:ad=⟨(E.μ k).bI,(E.μ k).base+off*i.size,none⟩:=by
        rcases ha with h|h
        · omega
        · exact h
       subst ha
       have hm1:(off+len+ds.length)*i.size<=es.length*i.size:=Nat.mul_le_mul_right _ B5
       rw [Nat.add_mul,Nat.add_mul] at hm1
       have hth:w.there (E.μ k).bI ((E.μ k).base+off*i.size+len*i.size) xs.length:=Row.there r1 r2 (by omega)
       have dO:=qW (ty:=o.type) ht hu hi hz hlen B9 _ _ len cap (by rw [hn];exact Im) hth rE.one
       rw [hll,Nat.add_assoc,<-Nat.add_mul] at dO
       have Ik:=PT hl Oj (p:=off+len) B5
       have gU:=fV.written r1 r2 r3 r4 r5 (off:=(off+len)*i.size) (vs:=ds.flatten) (xs:=xs) (by rw [Env.tQ];exact axA) rE.one (by rw [Nat.add_mul];omega)
       rw [<-Ik] at gU
       have Ky:∀ e∈es.take (off+len)++ds++es.drop (off+len+ds.length),e.length=i.size:=by
        intro e he
        rcases List.mem_append.1 he with h|h
        · rcases List.mem_append.1 h with h|h
          · exact hl e (List.mem_of_mem_take h)
          · exact Oj e h
        · exact hl e (List.mem_of_mem_drop h)
       obtain ⟨s1,s2⟩:=hs.write eQ r1 r4 (pos:=(E.μ k).base+(off+len)*i.size) (xs:=xs) (by omega) (by rw [Nat.add_mul];omega) (.arr i.size (es.take (off+len)++ds++es.drop (off+len+ds.length))) ⟨Ky,gU⟩
       exact aP (fJ ho (by rw [T6];exact dO)) (hc _ _ E _ _ Ol s1 s2 (.ms _ _ _ _ _ _ hk (by omega) (by rw [Nat.add_mul];exact hh) rfl (.inr rfl)))
     · have Q6:=hw.2 (by simpa using B5)
       rw [St.iO] at Q6
       have ahB:((es.take (off+len)).drop off++ds).flatten=(es.flatten.drop (off*i.size)).take (len*i.size)++ds.flatten:=by
        have dZ:∀ e∈es.take (off+len),e.length=i.size:=fun e he=>hl e (List.mem_of_mem_take he)
        rw [List.flatten_append,lI dZ,lH hl,List.drop_take,Nat.add_mul]
        congr 2;omega
       have Ky:∀ e∈(es.take (off+len)).drop off++ds,e.length=i.size:=by
        intro e he
        rcases List.mem_append.1 he with h|h
        · exact hl e (List.mem_of_mem_take (List.mem_of_mem_drop h))
        · exact Oj e h
       have UO:((es.take (off+len)).drop off++ds).length=len+ds.length:=by
        rw [List.length_append,List.length_drop,List.length_take];omega
       have hm0:(off+len)*i.size<=es.length*i.size:=Nat.mul_le_mul_right _ qM
       rw [Nat.add_mul] at hm0
       by_cases Im:len+ds.length<=cap
       · -- in Og spare room
         have ha:ad=⟨(E.μ k).bI,(E.μ k).base+off*i.size,none⟩:=by
          rcases ha with h|h
          · omega
          · exact h
         subst ha
         have hm1:(len+ds.length)*i.size<=cap*i.size:=Nat.mul_le_mul_right _ Im
         rw [Nat.add_mul] at hm1
         have hth:w.there (E.μ k).bI ((E.μ k).base+off*i.size+len*i.size) xs.length:=Row.there r1 r2 (by omega)
         have dO:=qW (ty:=o.type) ht hu hi hz hlen B9 _ _ len cap (by rw [hn];exact Im) hth rE.one
         rw [hll] at dO
         obtain ⟨q1,q2,q3,q4⟩:=lO (E.μ k).bI xs ((E.μ k).base+off*i.size+len*i.size) w
         have UN:=iP _ xs ((E.μ k).base+off*i.size+len*i.size) w r1
         have mN:∀ j,(rN cells ((E.μ k).base+off*i.size+len*i.size) xs)[j]? =if (E.μ k).base+off*i.size+len*i.size<=j/\j<(E.μ k).base+off*i.size+len*i.size+xs.length then xs[j - ((E.μ k).base+off*i.size+len*i.size)]? else cells[j]? :=by
          intro j
          exact lG _ _ _ _ (by omega)
         obtain ⟨s1,s2⟩:=hs.move (w':=w.setCells (E.μ k).bI ((E.μ k).base+off*i.size+len*i.size) xs) eQ k.rD ⟨(E.μ k).bI,(E.μ k).base+off*i.size,(E.μ k).fin⟩
          (fun _=>none) (.arr i.size ((es.take (off+len)).drop off++ds)) rfl (by simp) (by simp) q1 (fun b dX=>jV _ dX _ _ _) q2 q3 q4
          (fun j x hx=>by
            have h1:=hs.jR _ _ _ hx
            simp only [bF,UN,mN]
            split
            · rename_i aCf
              have:=hs.own k lA j (by omega) (by omega)
              rw [this] at hx;cases hx
            · simpa [bF,r1] using h1)
          (fun j x hx=>by cases hx)
          ⟨Ky,_,ty,fz,UN,by rw [gR];exact r2,by
           rw [cF Ky,UO,Nat.add_mul];simp only;omega,by rw [gR];exact r4,fun j v hj=>by
           rw [ahB] at hj
           rw [Env.FV]
           have hle:(E.Kd k.rD).Le ((E.push k.rD ⟨(E.μ k).bI,(E.μ k).base+off*i.size,(E.μ k).fin⟩ fun b j=>if b=(E.μ k).bI then (fun _=>none) j else none).Kd k.rD):=Env.Ku _ _ _ _ _
           have T5:((es.flatten.drop (off*i.size)).take (len*i.size)).length=len*i.size:=by
            rw [List.length_take,List.length_drop];omega
           simp only [mN]
           by_cases Ca:j<len*i.size
           · rw [List.getElem?_append_left (by omega),List.getElem?_take,if_pos Ca,List.getElem?_drop] at hj
             rw [if_neg (by omega)]
             obtain ⟨x0,hx0,hr0,h10⟩:=r5 _ v hj
             rw [Nat.add_assoc]
             rw [Env.tQ] at hr0
             exact ⟨x0,hx0,hr0.mono hle,h10⟩
           · rw [List.getElem?_append_right (by omega),T5] at hj
             obtain ⟨x0,hx0,hr0,h10⟩:=Oi _ v hj
             have:=(List.getElem?_eq_some_iff.1 hx0).1
             rw [if_pos (by omega)]
             refine ⟨x0,?_,hr0.mono hle,h10⟩
             rw [<-hx0];congr 1;omega⟩
         refine aP (fJ ho (by rw [T6];exact dO)) (hc _ _ _ _ _ Q6 s1 s2 ?_)
         have Um:=hs.aK k.rD
         rw [Um]
         refine .ms _ _ _ _ _ _ (Env.eI _ _ _ _) (by omega) ?_ (by rw [Env.e9]) (.inr ?_)
         · rw [Env.e9];simp only [Nat.zero_add];omega
         · rw [Env.e9];simp
       · -- a new block
         have hys:∃ ys:List Value,ys.length=len*i.size/\gX (E.Kd k.rD) ((es.flatten.drop (off*i.size)).take (len*i.size)) ys/\
          (Builtin.firstCells i.size len (.slice (some ad) len cap)).run P w.drew=.ok ys.toArray w.drew:=by
          rcases ha with h0|ha
          · have hl0:len=0:=by omega
            subst hl0
            refine ⟨[],by simp,fun j v hj=>by simp at hj,?_⟩
            simp [Builtin.firstCells,loadCells,loadCellsFrom]
          · subst ha
            have axB:fI (E.Kd k.rD) w (E.μ k).bI ((E.μ k).base+off*i.size) ((es.flatten.drop (off*i.size)).take (len*i.size)):=by
             have h1:fV i.size (E.at k) w (E.μ k) es.flatten:=⟨cells,ty,fz,r1,r2,r3,r4,r5⟩
             have:=h1.sG.sub (off*i.size) (len*i.size)
             rw [Env.tQ] at this
             exact this
            obtain ⟨ys,y1,y2,y3,y4⟩:=axB.list
            have hyl:ys.length=len*i.size:=by rw [y1,List.length_take,List.length_drop];omega
            refine ⟨ys,hyl,fun j v hj=>?_,?_⟩
            · obtain ⟨x0,hx0,hr0⟩:=y3.get hj
              have anS:ys[j]? =some x0:=by simpa using hx0
              exact ⟨x0,anS,hr0,y4 x0 (List.mem_of_getElem? anS)⟩
            · refine run_firstCells_some (P:=P) w.drew i.size len _ len cap ys hyl fun j v hj=>?_
              rw [Addr.add_mid]
              have:=y2 j v hj
              exact this
         obtain ⟨ys,hyl,hyr,hold⟩:=hys
         have dO:=o8 (ty:=o.type) ht hu hi CX hz hlen aiX (some ad) len cap hold (by omega) T4 hb2
         have PV:=grownCap_ge w (len+(e0::r0).length) cap el
         have s0:=yG (ys:=ys) (xs:=xs) (z:=z.cells) (p:=len) (q:=(e0::r0).length) hyl rE.C4 hzs rfl PV
         obtain ⟨E',s1,s2,l7⟩:=Kv (w':=w.drew.alloc _) hs (some k) k.rD (fz:=(0,0)) (.inl rfl) (lL w _) (A6 w _) (ds:=(es.take (off+len)).drop off++ds) Ky s0 (by rw [UO,<-hn];exact PV)
          (by
            rw [tV,ahB]
            exact Aj hyr (by rw [hyl,List.length_take,List.length_drop];omega) Oi _)
         refine aP (fJ ho (by rw [T6];exact dO)) (hc _ _ E' _ _ Q6 s1 s2 ?_)
         rw [UO] at l7
         rw [hll] at*
         exact l7
 · exact hw.elim
end
open Go
theorem aC.C6:∀ (l:List (Nat×Obj)) (n:Nat) (o:Obj),aC.find l n=some o->aC.zV l n o=l
 |[],_,_,h=>by cases h
 |(k,x)::r,n,o,h=>by
  simp only [aC.find] at h
  simp only [aC.zV]
  split at h
  · rename_i hk
    rw [if_pos hk]
    simp only [Option.some.injEq] at h
    subst h;rfl
  · rename_i hk
    rw [if_neg hk,aC.C6 r n o h]
theorem St.UP {st:St} {k:Key} {o:Obj} (h:st.get k=some o):st.set k o=st:=by
 cases k with
 |g n=>simp only [St.set,aC.set];rw [aC.C6 _ _ _ h]
 |l n=>simp only [St.set,aC.set];rw [aC.C6 _ _ _ h]
section
variable {P:Program} {o:Oper} {a:Act} {E:Env} {N:Nat} {st:St} {w:World} {fr:Fr} {next:Act->World->Prop} {Q:Exit->Act->World->Prop} {K:R->Prop}
theorem EK {zero:List V} {n j:Nat} (hj:j<n*zero.length):(List.replicate n zero).flatten[j]? =zero[j%zero.length]? :=by
 have hp:0<zero.length:=by
  rcases Nat.eq_zero_or_pos zero.length with h|h
  · rw [h] at hj;simp at hj
  · exact h
 have hl:∀ e∈List.replicate n zero,e.length=zero.length:=fun e he=>by rw [(List.mem_replicate.1 he).2]
 have hq:j/zero.length<n:=(Nat.div_lt_iff_lt_mul hp).2 hj
 have:=o6 hl (ix:=j/zero.length) (j:=j%zero.length) (e:=zero) (by simp [hq]) (Nat.mod_lt _ hp)
 rw [<-this]
 congr 1
 rw [Nat.mul_comm];exact (Nat.div_add_mod j _).symm
theorem KA {z:Array Value} {n j:Nat} (hz:0<z.size) (hj:j<n):(madeCells z n)[j]? =z[j%z.size]? :=by
 have hm:j%z.size<z.size:=Nat.mod_lt _ hz
 simp [madeCells,hj,hm]
theorem C7 {z:Array Value} {zero:List V} {len:Nat} (hr:dY E zero z) (hp:0<zero.length):dY E (List.replicate len zero).flatten (madeCells z (len*zero.length)):=by
 have hl:∀ e∈List.replicate len zero,e.length=zero.length:=fun e he=>by rw [(List.mem_replicate.1 he).2]
 have CW:=cF hl
 rw [List.length_replicate] at CW
 refine ⟨by rw [size_madeCells,CW],fun j v x hj hx=>?_⟩
 have dZ:j<len*zero.length:=by rw [<-CW];exact (List.getElem?_eq_some_iff.1 hj).1
 have hzs:=hr.1
 rw [EK dZ] at hj
 rw [KA (by omega) dZ,hzs] at hx
 exact hr.2 _ v x hj hx
theorem C8 {z:Array Value} {n:Nat} (h1:∀ (j:Nat) (x:Value),z[j]? =some x->x.oneCell'=true) (hz:0<z.size) (j:Nat) (x:Value) (hx:(madeCells z n)[j]? =some x):x.oneCell'=true:=by
 have dZ:j<n:=by
  have:=(Array.getElem?_eq_some_iff.1 hx).1
  rwa [size_madeCells] at this
 rw [KA hz dZ] at hx
 exact h1 _ x hx
theorem KB:∀ {vs e:List V},vs.length=e.length->cS e 0 vs=vs:=by
 intro vs e h
 apply List.ext_getElem?
 intro j
 rw [gT _ _ _ _ (by omega)]
 by_cases hj:j<vs.length
 · rw [if_pos (by omega)];rfl
 · rw [if_neg (by omega),List.getElem?_eq_none (by omega),List.getElem?_eq_none (by omega)]
def gE (sz:Nat):List (Nat×V)->List (Nat×Nat×V)
 |[]=>[]
 |(i,v)::r=>(i*sz,sz,v)::gE sz r
theorem tW {sz:Nat}:∀ {ps:List (Nat×V)} {es sD:List (List V)},(∀ e∈es,e.length=sz)->lC es sz ps=some sD->
 hZ es.flatten (gE sz ps)=some sD.flatten/\(∀ e∈sD,e.length=sz)/\sD.length=es.length
 |[],es,sD,hl,h=>by
  simp only [lC,Option.some.injEq] at h
  subst h
  exact ⟨rfl,hl,rfl⟩
 |(i,v)::r,es,sD,hl,h=>by
  simp only [lC] at h
  split at h
  case isFalse=>cases h
  rename_i hc
  obtain ⟨h1,h2,h3⟩:=hc
  have Ky:∀ e∈es.set i v.cells,e.length=sz:=by
   intro e he
   rcases List.mem_or_eq_of_mem_set he with h|h
   · exact hl e h
   · rw [h];exact h2
  obtain ⟨e1,e2,e3⟩:=tW Ky h
  have CW:=cF hl
  have hmul:(i+1)*sz<=es.length*sz:=Nat.mul_le_mul_right _ h3
  rw [Nat.succ_mul] at hmul
  refine ⟨?_,e2,by rw [e3];simp⟩
  simp only [gE,hZ]
  rw [if_pos ⟨h1,h2,by omega⟩]
  have Ij:es[i]? =some es[i]:=by simp [h3]
  have:=Kt hl Ij 0 v.cells (by omega)
  rw [KB (by rw [h2,hl _ (List.getElem_mem h3)]),Nat.add_zero] at this
  rw [<-this]
  exact e1
def rQ:List (Nat×Operand)->List (Nat×bH)->Bool
 |[],[]=>true
 |(i,x)::r,(j,d)::q=>decide (i=j)&&cZ x d&&rQ r q
 |_,_=>false
theorem xW {sz:Nat} (hf:aS E N fr a):∀ {ps:List (Nat×Operand)} {qs:List (Nat×bH)},rQ ps qs=true->
 (gE sz (fG fr qs)).length=ps.length/\∀ (j:Nat) (q:Nat×Nat×V) (p:Nat×Operand),(gE sz (fG fr qs))[j]? =some q->ps[j]? =some p->(q.1=p.1*sz/\q.2.1=sz)/\Rel E q.2.2 (a.eval p.2)
 |[],[],_=>⟨rfl,fun j q p hq=>by simp [fG,gE] at hq⟩
 |(i,x)::r,(i',d)::q,h=>by
  simp only [rQ,Bool.and_eq_true,decide_eq_true_eq] at h
  obtain ⟨⟨h0,h2⟩,h3⟩:=h
  subst h0
  obtain ⟨l1,l2⟩:=xW (sz:=sz) hf h3
  refine ⟨by simp [fG,gE,l1],fun j y p hy hp=>?_⟩
  cases j with
  |zero=>
   simp [fG,gE] at hy hp
   subst hy;subst hp
   exact ⟨⟨rfl,rfl⟩,aQ h2 hf⟩
  |succ j=>exact l2 j y p (by simpa [fG,gE] using hy) (by simpa using hp)
 |[],_::_,h=>by cases h
 |(_,_)::_,[],h=>by simp [rQ] at h
theorem dY.UQ {cs:List V} {xs:Array Value} (hr:dY E cs xs) (h1:∀ (j:Nat) (x:Value),xs[j]? =some x->x.oneCell'=true):gX E cs xs.toList:=by
 intro j v hj
 obtain ⟨x,hx,AY⟩:=hr.get hj
 exact ⟨x,by simpa using hx,AY,h1 j x hx⟩
theorem UR {t el:TypeId} {len:Nat} {ps:Array (Nat×Operand)} {qs:List (Nat×bH)} {m:jQ} {sz bytes:Nat} {zero:List V} (ho:o.op=.buildSlice t len ps)
 (hu:P.underlying t=some (.slice el)) (Ij:EG P el sz bytes=true) (hzo:jX P el zero=true) (axD:len*sz<=16777216) (hp:rQ ps.toList qs=true)
 (hs:bQ E st w) (hf:aS E N fr a) (hw:(step (.Ug m sz len zero qs) fr st).wp (aE P) K) (hc:eX E st w o a next K):o.wp P a w next Q:=by
 obtain ⟨i,z,hi,CX,jN,hby,Kw,OL,hzs⟩:=vY Ij
 obtain ⟨i',z',US,KC,UI,hr,hl,h1⟩:=gV hzo
 rw [hi] at US;cases US
 rw [CX] at KC;cases KC
 have hzl:zero.length=sz:=by omega
 simp only [step] at hw
 unfold T.opt at hw
 split at hw
 case h_2=>exact hw.elim
 rename_i es UK
 have hlr:∀ e∈List.replicate len zero,e.length=sz:=fun e he=>by rw [(List.mem_replicate.1 he).2];exact hzl
 obtain ⟨f1,f2,f3⟩:=tW hlr UK
 rw [List.length_replicate] at f3
 obtain ⟨l1,l2⟩:=xW (sz:=sz) hf hp
 have hmr:=C7 (len:=len) (hr E) (by omega)
 have ON:=C8 (n:=len*zero.length) h1 (by omega)
 rw [hzl] at hmr ON
 obtain ⟨zs,BF,Cy,PQ⟩:=CY (E:=E) (fun k=>some (k*sz,sz)) [] (gE sz (fG fr qs)) (ps.toList.map fun q=>(q.1,a.eval q.2)) _ _ _ f1 hmr ON (by simp [l1]) (fun j q x hq hx=>by
  rw [List.getElem?_map] at hx
  cases UH:ps.toList[j]? with
  |none=>rw [UH] at hx;cases hx
  |some p=>
   rw [UH] at hx
   simp only [Option.map_some,Option.some.injEq] at hx
   subst hx
   obtain ⟨⟨OD,ho2⟩,l7⟩:=l2 j q p hq UH
   exact ⟨by simp [OD,ho2],l7⟩)
 have axE:zs.size=len*sz:=by rw [Cy.1,cF f2,f3]
 obtain ⟨v,bA,E',hk,s1,s2,l7⟩:=newSlice_ok (w':=w.alloc (.cells zs el)) hw hs (fz:=(0,0)) (.inl rfl) rfl ⟨rfl,rfl,rfl⟩ f2 axE (by omega) (Cy.UQ PQ)
 refine aP (x:=.slice (some ⟨w.heap.size,0,none⟩) len len) ?_ (hc _ _ E' _ _ hk s1 s2 (by rw [<-f3];rw [<-f3] at l7;exact l7))
 have Il:(ps.map fun (q:Nat×Operand)=>(q.1,a.eval q.2)).toList=ps.toList.map fun q=>(q.1,a.eval q.2):=by simp
 simp only [execOp,ho,Instr.buildSlice,Sem.run_bind,run_underlying hu,Result.andThen_ok]
 have hns:¬(len*sz>16777216):=by omega
 by_cases h0:len*sz=0
 · have he:len=0:=by
    rcases Nat.mul_eq_zero.1 h0 with h|h
    · exact h
    · omega
   subst he
   have hm0:madeCells z.cells (0*sz)=#[]:=by
    apply Array.eq_empty_of_size_eq_zero
    rw [size_madeCells];omega
   rw [hm0] at BF
   simp [sizeOf,typeInfo,hi,newRow,jN,Array.range_zero',BF]
 · have h00:¬(len=0\/sz=0):=by
    rintro (h|h)
    · simp [h] at h0
    · omega
   simp only [madeCells] at BF
   simp [sizeOf,typeInfo,hi,jN,hns,zeroValue,CX,newRow,BF]
   exact fun h=>absurd h h0
theorem Q7 {t el:TypeId} {x y:Operand} {d e:bH} {m:jQ} {sz bytes:Nat} {zero:List V} (ho:o.op=.makeSlice t x y) (hx:cZ x d=true) (hy:cZ y e=true)
 (hu:P.underlying t=some (.slice el)) (Ij:EG P el sz bytes=true) (hzo:jX P el zero=true)
 (hs:bQ E st w) (hf:aS E N fr a) (hw:(step (.Kl m sz bytes zero d e) fr st).wp (aE P) K) (hc:eX E st w o a next K):o.wp P a w next Q:=by
 obtain ⟨i,z,hi,CX,jN,hby,Kw,OL,hzs⟩:=vY Ij
 obtain ⟨i',z',US,KC,UI,hr,hl,h1⟩:=gV hzo
 rw [hi] at US;cases US
 rw [CX] at KC;cases KC
 have hzl:zero.length=sz:=by omega
 have r1:=aQ hx hf
 have r2:=aQ hy hf
 simp only [step] at hw
 split at hw
 case h_2=>exact hw.elim
 rename_i k p k' q e1 e2
 rw [e1] at r1
 rw [e2] at r2
 have r1:=r1.int
 have r2:=r2.int
 obtain ⟨sJ,hw⟩:=hw
 simp only [Bool.and_eq_true,decide_eq_true_eq] at sJ
 obtain ⟨⟨h0,hpq⟩,rP⟩:=sJ
 subst hpq
 obtain ⟨T4,hb2⟩:=Ak rP OL
 have hbb:(i.bytes:Int)*p<=281474976710656:=by
  have h3:((i.bytes*p.toNat:Nat):Int)<=281474976710656:=by rw [hby,Nat.mul_comm];omega
  rw [Int.natCast_mul] at h3
  rwa [Int.toNat_of_nonneg h0] at h3
 have dO:=run_make (P:=P) w t el i z hu hi CX k k' p p h0 (Int.le_refl _) hbb (by omega)
 have hmr:=C7 (len:=p.toNat) (hr E) (by omega)
 have ON:=C8 (n:=p.toNat*zero.length) h1 (by omega)
 rw [hzl] at hmr ON
 have hlr:∀ e∈List.replicate p.toNat zero,e.length=sz:=fun e he=>by rw [(List.mem_replicate.1 he).2];exact hzl
 rw [jN] at dO
 obtain ⟨v,bA,E',hk,s1,s2,l7⟩:=newSlice_ok (w':=w.alloc (.cells (madeCells z.cells (p.toNat*sz)) el)) hw hs (fz:=(0,0)) (.inl rfl) rfl ⟨rfl,rfl,rfl⟩ hlr (cap:=p.toNat) (size_madeCells _ _) (by simp) (hmr.UQ ON)
 rw [List.length_replicate] at l7
 exact aP (x:=.slice (some ⟨w.heap.size,0,none⟩) p.toNat p.toNat) (by simp [execOp,ho,r1,r2,dO]) (hc _ _ E' _ _ hk s1 s2 l7)
theorem tB.mark {fz:Nat×Nat} {n:Nat} (h:tB 1 fz n):tB 1 (if fz.1==fz.2 then (n,n+1) else (min fz.1 n,max fz.2 (n+1))) n:=by
 obtain ⟨lo,hi⟩:=fz
 simp only [tB] at*
 split
 · exact .inr ⟨Nat.le_refl _,trivial⟩
 · rename_i dX
   simp at dX
   rcases h with h|h
   · exact absurd h dX
   · exact .inr ⟨by simp only;omega,trivial⟩
theorem tX {b n:Nat} {c:Array Value} {t:TypeId} {fz:Nat×Nat} (h:w.heap[b]? =some (.cells c t fz)):
 (w.freeze ⟨b,n,none⟩ 1).heap[b]? =some (.cells c t (if fz.1==fz.2 then (n,n+1) else (min fz.1 n,max fz.2 (n+1)))):=by
 simp [World.freeze,Array.getElem?_modify,h]
theorem Al {b b' n:Nat} (h:b'≠b):(w.freeze ⟨b,n,none⟩ 1).heap[b']? =w.heap[b']? :=by
 simp only [World.freeze]
 simp only [Nat.succ_ne_zero,if_false,Array.getElem?_modify]
 rw [if_neg (fun e=>h e.symm)]
theorem KD {ob:Array Value} {t:TypeId} {n:Nat}:((w.drew.alloc (.cells ob t)).freeze ⟨w.heap.size,n,none⟩ 1).heap=w.heap.push (.cells ob t (n,n+1)):=by
 apply Array.ext_getElem?
 intro j
 by_cases hj:j=w.heap.size
 · subst hj
   rw [tX (c:=ob) (t:=t) (fz:=(0,0)) (by rw [lL];simp)]
   simp
 · rw [Al hj,lL]
   simp only [Array.getElem?_push,if_neg hj]
theorem Am {b off:Nat} {c:Array Value} {t:TypeId} {fz:Nat×Nat} (h:w.heap[b]? =some (.cells c t fz)):
 (markStringish ⟨b,off,none⟩).run P w=.ok () (w.freeze ⟨b,c.size,none⟩ 1):=by
 simp [markStringish,shape,freeze,Sem.run,World.shape?,h]
theorem xY (l:List UInt8):(eE l).length=l.length:=by simp [eE]
theorem Io (l:List UInt8):∀ e∈eE l,e.length=1:=by
 intro e he
 simp only [eE,List.mem_map] at he
 obtain ⟨c,_,rfl⟩:=he
 rfl
theorem EL (l:List UInt8) (rest:List Value):gX E (eE l).flatten (l.map (fun c=>Value.int .u8 c.toNat)++rest):=by
 intro j v hj
 rw [o7,List.getElem?_map] at hj
 cases hc:l[j]? with
 |none=>rw [hc] at hj;cases hj
 |some c=>
  rw [hc] at hj
  simp only [Option.map_some,Option.some.injEq] at hj
  subst hj
  have dZ:=(List.getElem?_eq_some_iff.1 hc).1
  exact ⟨.int .u8 c.toNat,by rw [List.getElem?_append_left (by simpa using dZ)];simp [hc],.deep (.i _ _),rfl⟩
theorem UT {t t' el:TypeId} {x:Operand} {d:bH} {m:jQ} (ho:o.op=.convert t t' x) (hx:cZ x d=true) (hus:P.underlying t=some .string) (hu:P.underlying t'=some (.slice el)) (he:P.underlying el=some (.int .u8))
 (hs:bQ E st w) (hf:aS E N fr a) (hw:(step (.Uh m d) fr st).wp (aE P) K) (hc:eX E st w o a next K):o.wp P a w next Q:=by
 have r1:=aQ hx hf
 simp only [step] at hw
 split at hw
 case h_2=>exact hw.elim
 rename_i l e1
 rw [e1] at r1
 have r1:=r1.B3
 have jN:(str l).size=l.length:=by simp [str,ByteArray.size]
 have PV:=grownCap_ge w l.length 0 el
 have vW:((str l).data.map (fun b=>Value.int .u8 b.toNat)++Array.replicate (grownCap w l.length 0 el - l.length) (Value.int .u8 0)).toList=l.map (fun c=>Value.int .u8 c.toNat)++List.replicate (grownCap w l.length 0 el - l.length) (Value.int .u8 0):=by
  simp [str]
 have s0:((str l).data.map (fun b=>Value.int .u8 b.toNat)++Array.replicate (grownCap w l.length 0 el - l.length) (Value.int .u8 0)).size=grownCap w l.length 0 el*1:=by
  simp [str];omega
 generalize UU:((str l).data.map (fun b=>Value.int .u8 b.toNat)++Array.replicate (grownCap w l.length 0 el - l.length) (Value.int .u8 0))=cells at vW s0
 obtain ⟨v,bA,E',hk,s1,s2,l7⟩:=newSlice_ok (w':=(w.drew.alloc (.cells cells el)).freeze ⟨w.heap.size,cells.size,none⟩ 1) hw hs (fz:=(cells.size,cells.size+1)) (.inr ⟨Nat.le_refl _,rfl⟩) KD ⟨rfl,rfl,rfl⟩ (Io l) (cap:=grownCap w l.length 0 el) s0 (by rw [xY];exact PV)
  (by rw [vW];exact EL l _)
 rw [xY] at l7
 refine aP (x:=.slice (some ⟨w.heap.size,0,none⟩) l.length (grownCap w l.length 0 el)) ?_ (hc _ _ E' _ _ hk s1 s2 l7)
 have hm:=Am (P:=P) (w:=w.drew.alloc (.cells cells el)) (b:=w.heap.size) (off:=0) (c:=cells) (t:=el) (fz:=(0,0)) (by rw [lL];simp)
 simp only [execOp,ho,r1,convert,Sem.run_bind,run_underlying hus,run_underlying hu,run_underlying he,Result.andThen_ok,Conv.stringToBytes,jN]
 simp [newRow,Question.forced]
 simp only [grownCap] at UU
 simp only [grownCap]
 have:Result.andThen ((markStringish ⟨w.heap.size,0,none⟩).run P (w.drew.alloc (.cells cells el))) (fun _ w'=>Result.ok () w')=.ok () ((w.drew.alloc (.cells cells el)).freeze ⟨w.heap.size,cells.size,none⟩ 1):=by rw [hm];rfl
 simp [UU,hm]
theorem UW {t el:TypeId} {x:Operand} {d:bH} (ho:o.op=.convert t t x) (hx:cZ x d=true) (hu:P.underlying t=some (.slice el)) (he:P.underlying el=some (.int .u8))
 (hs:bQ E st w) (hf:aS E N fr a) (hw:(step (.mkb d) fr st).wp (aE P) K) (hc:eX E st w o a next K):o.wp P a w next Q:=by
 have r1:=aQ hx hf
 have fin:∀ {k:Key} {ob:Obj} {ad:Addr} {len cap:Nat} {v:V} {c:Array Value} {ty:TypeId} {fz:Nat×Nat},st.get k=some ob->w.heap[(E.μ k).bI]? =some (.cells c ty fz)->ad.block=(E.μ k).bI->
  (∀ w':World,w'.heap[(E.μ k).bI]? =some (.cells c ty (if fz.1==fz.2 then (c.size,c.size+1) else (min fz.1 c.size,max fz.2 (c.size+1))))->Holds (E.at k) w' (E.μ k) ob)->
  a.eval x=.slice (some ad) len cap->Rel E v (.slice (some ad) len cap)->K (v,st)->o.wp P a w next Q:=by
  intro k ob ad len cap v c ty fz eQ hb had hh hv hr hk
  obtain ⟨s1,s2⟩:=hs.set (w':=w.freeze ⟨(E.μ k).bI,c.size,none⟩ 1) eQ ob (by simp [World.freeze]) (fun b dX=>Al dX) rfl rfl rfl (fun j x hx=>by
   have:=hs.jR _ _ _ hx
   simp only [bF,tX hb]
   simpa [bF,hb] using this) (hh _ (tX hb))
  rw [St.UP eQ] at s1 s2
  refine aP (x:=.slice (some ad) len cap) ?_ (hc _ _ E _ _ hk s1 s2 hr)
  obtain ⟨b,off,sp⟩:=ad
  simp only at had
  subst had
  simp [execOp,ho,hv,convert,run_underlying hu,run_underlying he,markStringish,shape,freeze,Sem.run,World.shape?,hb]
 simp only [step] at hw
 split at hw
 · rename_i k sz es e1
   rw [e1] at r1
   obtain ⟨ob,eQ,hw⟩:=hw
   dsimp only at hw
   split at hw
   case h_2=>exact hw.elim
   generalize hv:a.eval x=y at r1
   cases r1 with
   |deep hd=>cases hd
   |FU _ _ _ ad cap hk hd EI hh=>
    obtain ⟨c,ty,fz,q1,q2,q3,q4,q5⟩:=hs.obj k _ eQ
    exact fin eQ q1 EI.1 (fun w' UN=>⟨c,ty,_,UN,q2.mark,q3,q4,fun j v hj=>by simp at hj⟩) hv (.FU _ _ _ _ _ hk hd EI hh) hw
 · rename_i k sz off len e1
   rw [e1] at r1
   obtain ⟨ob,eQ,hw⟩:=hw
   dsimp only at hw
   split at hw
   case h_2=>exact hw.elim
   split at hw
   case isFalse=>exact hw.elim
   rename_i BF
   subst BF
   generalize hv:a.eval x=y at r1
   cases r1 with
   |deep hd=>cases hd
   |ms _ _ _ _ ad cap hk Q4 hh EI ha=>
    obtain ⟨hl,c,ty,fz,q1,q2,q3,q4,q5⟩:=hs.obj k _ eQ
    exact fin eQ q1 EI (fun w' UN=>⟨hl,c,ty,_,UN,q2.mark,q3,q4,q5⟩) hv (.ms _ _ _ _ _ _ hk Q4 hh EI ha) hw
 · exact hw.elim
theorem sK:∀ {es:List (List V)} {y:List UInt8},bytesOf es=some y->∃ ns:List Int,es=ns.map (fun n=>[V.i .u8 n])/\y=ns.map fun n=>UInt8.ofNat n.toNat
 |[],y,h=>by simp only [bytesOf,Option.some.injEq] at h;subst h;exact ⟨[],rfl,rfl⟩
 |e::r,y,h=>by
  unfold bytesOf at h
  split at h
  · cases ‹_=[]›
  · rename_i n r' heq
    cases heq
    split at h
    · rename_i x hx
      simp only [Option.some.injEq] at h
      subst h
      obtain ⟨ns,h1,h2⟩:=sK hx
      exact ⟨n::ns,by simp [h1],by simp [h2]⟩
    · cases h
  · cases h
theorem foldl_push:∀ (ns:List Int) (s:ByteArray),ns.foldl (fun (r:ByteArray) n=>r.push (UInt8.ofNat n.toNat)) s=⟨s.data++(ns.map fun n=>UInt8.ofNat n.toNat).toArray⟩
 |[],s=>by simp
 |n::r,s=>by
  rw [List.foldl_cons,foldl_push r]
  cases s with
  |mk d=>
  apply ByteArray.ext
  apply Array.ext'
  simp [ByteArray.push]
theorem UX {t t' el:TypeId} {x:Operand} {d:bH} (ho:o.op=.convert t t' x) (hx:cZ x d=true) (hu:P.underlying t=some (.slice el)) (he:P.underlying el=some (.int .u8)) (hus:P.underlying t'=some .string)
 (hs:bQ E st w) (hf:aS E N fr a) (hw:(step (.PN d) fr st).wp (aE P) K) (hc:eX E st w o a next K):o.wp P a w next Q:=by
 have r1:=aQ hx hf
 simp only [step] at hw
 obtain ⟨es,xs,⟨y,hy,hk⟩,rE⟩:=elems_ok (P:=P) hs r1 hw
 obtain ⟨ns,rfl,rfl⟩:=sK hy
 have hxs:xs=ns.map (Value.int .u8):=by
  apply List.ext_getElem?
  intro j
  have Q5:=rE.C4
  simp only [List.length_map,Nat.mul_one] at Q5
  by_cases hj:j<ns.length
  · have CW:(ns.map fun n=>[V.i .u8 n]).flatten=ns.map (V.i .u8):=by
     clear hy hk rE hw Q5 hj
     induction ns with
     |nil=>rfl
     |cons n r ih=>simp [ih]
    obtain ⟨z,hz,hrz,_⟩:=rE.rel j (.i .u8 ns[j]) (by rw [CW];simp [hj])
    rw [hz,hrz.int]
    simp [hj]
  · rw [List.getElem?_eq_none (by omega),List.getElem?_eq_none (by simp;omega)]
 subst hxs
 have hlen:=rE.len w
 have B9:=rE.first w rfl ns.length (by simp)
 simp only [Nat.mul_one] at B9
 rw [List.take_of_length_le (by simp)] at B9
 have axG:ns.foldl (fun (r:ByteArray) n=>r.push (UInt8.ofNat n.toNat)) ByteArray.empty=str (ns.map fun n=>UInt8.ofNat n.toNat):=by
  rw [foldl_push];simp [str]
 refine aP (x:=.string (str (ns.map fun n=>UInt8.ofNat n.toNat))) ?_ (hc.same hs hk (.deep (.s _)))
 simp only [List.length_map] at hlen
 cases hv:a.eval x with
 |slice p len cap=>
  rw [hv] at hlen B9
  have hl:len=ns.length:=by simpa [Builtin.lenOf] using hlen
  subst hl
  cases p with
  |none=>
   simp [Builtin.firstCells] at B9
   have h0:ns=[]:=by
    cases ns with
    |nil=>rfl
    |cons n r=>simp at B9
   subst h0
   simp [execOp,ho,hv,convert,run_underlying hu,run_underlying he,run_underlying hus,Conv.bytesToString]
   rfl
  |some ad=>
   simp [Builtin.firstCells] at B9
   have hb:=run_bytesToString (P:=P) w ad ns.length cap ns (by simpa using B9)
   rw [axG] at hb
   simp [execOp,ho,hv,convert,run_underlying hu,run_underlying he,run_underlying hus,hb]
 |string s=>
  rw [hv] at r1 hlen B9
  have hsn:s.size=ns.length:=by simpa [Builtin.lenOf] using hlen
  simp only [Builtin.firstCells,Sem.run_pure,Result.ok.injEq,and_true] at B9
  have:s=str (ns.map fun n=>UInt8.ofNat n.toNat):=by
   have h2:=congrArg Array.toList B9
   simp only [Array.toList_map,ByteArray.data_extract] at h2
   cases s with
   |mk da=>
   have h3:(da.extract 0 ns.length)=da:=by
    have:da.size=ns.length:=hsn
    rw [<-this];simp
   simp only [h3] at h2
   apply ByteArray.ext
   apply Array.ext'
   simp only [str]
   apply List.ext_getElem?
   intro j
   have h4:=congrArg (fun l=>l[j]?) h2
   simp only [List.getElem?_map] at h4
   rw [List.getElem?_map]
   cases h5:da.toList[j]? with
   |none=>
    rw [h5] at h4
    cases h6:ns[j]? with
    |none=>rfl
    |some n=>rw [h6] at h4;cases h4
   |some b=>
    rw [h5] at h4
    cases h6:ns[j]? with
    |none=>rw [h6] at h4;cases h4
    |some n=>
     rw [h6] at h4
     simp only [Option.map_some,Option.some.injEq,Value.int.injEq,true_and] at h4
     rw [<-h4]
     simp
  subst this
  simp [execOp,ho,hv,convert,run_underlying hu,run_underlying hus]
 |_=>rw [hv] at hlen;simp [Builtin.lenOf,stuck] at hlen
end
open Go
section
variable {P:Program} {o:Oper} {a:Act} {E:Env} {N:Nat} {st:St} {w:World} {fr:Fr} {next:Act->World->Prop} {Q:Exit->Act->World->Prop} {K:R->Prop}
theorem Rel.FY {y:Value} (h:Rel E .aB y):y=.slice none 0 0:=by cases h with|deep h=>cases h;rfl
theorem Rel.slv {tok:Option Key} {sz:Nat} {es:List (List V)} {y:Value} (h:Rel E (.sl tok sz es) y):∃ p cap,y=.slice p es.length cap/\es.length<=cap/\((es=[]/\cap=0/\tok=none)\/
 ∃ (bI off:Nat) (val:Nat->Value),p=some ⟨bI,off,none⟩/\(∀ e∈es,e.length=sz)/\(∀ j d,es.flatten[j]? =some d->E.I bI (off+j)=some (val j))/\(∀ j d,es.flatten[j]? =some d->eH E.I d (val j))/\
  (∀ k,tok=some k->E.has k/\bI=(E.μ k).bI/\(cap=es.length\/(off+es.length*sz=(E.μ k).base/\off+cap*sz=(E.μ k).fin)))):=by
 cases h with
 |deep hd=>
  cases hd with
  |mM=>exact ⟨none,0,rfl,Nat.le_refl _,.inl ⟨rfl,rfl,rfl⟩⟩
  |Oz _ a hs=>exact ⟨some a,0,rfl,Nat.le_refl _,.inl ⟨rfl,rfl,rfl⟩⟩
  |sl _ _ bI off cap val hc hl hv hr=>exact ⟨_,_,rfl,hc,.inr ⟨bI,off,val,rfl,hl,hv,hr,fun k hk=>by cases hk⟩⟩
 |FU k _ _ ad cap hk hd hb hs=>
  cases hd with
  |Oz _ _ hn=>exact absurd hb.2 hn
  |sl _ _ bI off _ val hc hl hv hr=>
   exact ⟨_,_,rfl,hc,.inr ⟨bI,off,val,rfl,hl,hv,hr,fun k' l5=>by cases l5;exact ⟨hk,hb.1,hs⟩⟩⟩
theorem tY {x:Operand} {ts:Array TypeId} {v:Value} (ho:o.op=.call { callee:=.builtin .len,args:=#[x],argTypes:=ts })
 (h:(Builtin.len_ ts o.type #[a.eval x]).run P w=.ok v w):(execOp a.eval o).run P w=.ok (.value v) w:=by
 simp [execOp,ho,resolve,invoke,builtin,h,Result.andThen]
theorem Q8 {x:Operand} {d:bH} {ts:Array TypeId} {t:TypeId} (ho:o.op=.call { callee:=.builtin .len,args:=#[x],argTypes:=ts }) (ht:ts[0]? =some t) (hu:P.underlying t=some .string) (hx:cZ x d=true)
 (hs:bQ E st w) (hf:aS E N fr a) (hw:(step (.EB d) fr st).wp (aE P) K) (hc:eX E st w o a next K):o.wp P a w next Q:=by
 have r1:=aQ hx hf
 simp only [step] at hw
 split at hw
 case h_2=>exact hw.elim
 rename_i l e1
 rw [e1] at r1
 have r1:=r1.B3
 have jN:(str l).size=l.length:=by simp [str,ByteArray.size]
 exact aP (x:=goInt l.length) (tY ho (by simp [Builtin.len_,ht,r1,run_underlying hu,jN])) (hc.same hs hw (.deep (.i _ _)))
theorem Q9 {x:Operand} {d:bH} {ts:Array TypeId} {t el:TypeId} (ho:o.op=.call { callee:=.builtin .len,args:=#[x],argTypes:=ts }) (ht:ts[0]? =some t) (hu:P.underlying t=some (.slice el)) (hx:cZ x d=true)
 (hs:bQ E st w) (hf:aS E N fr a) (hw:(step (.EC d) fr st).wp (aE P) K) (hc:eX E st w o a next K):o.wp P a w next Q:=by
 have r1:=aQ hx hf
 have dO:∀ p (n c:Nat),a.eval x=.slice p n c->(execOp a.eval o).run P w=.ok (.value (goInt n)) w:=fun p n c h=>tY ho (by simp [Builtin.len_,ht,h,run_underlying hu])
 simp only [step] at hw
 split at hw
 · rename_i e1
   rw [e1] at r1
   exact aP (dO _ _ _ r1.FY) (hc.same hs hw (.deep (.i _ _)))
 · rename_i tok sz es e1
   rw [e1] at r1
   obtain ⟨p,cap,hv,_⟩:=r1.slv
   exact aP (dO _ _ _ hv) (hc.same hs hw (.deep (.i _ _)))
 · rename_i k sz off n e1
   rw [e1] at r1
   generalize hv:a.eval x=y at r1
   cases r1 with
   |deep hd=>cases hd
   |ms=>exact aP (dO _ _ _ hv) (hc.same hs hw (.deep (.i _ _)))
 · exact hw.elim
theorem Ra {x:Operand} {n:Nat} {ts:Array TypeId} {t el:TypeId} (ho:o.op=.call { callee:=.builtin .len,args:=#[x],argTypes:=ts }) (ht:ts[0]? =some t) (hu:P.underlying t=some (.array n el))
 (hs:bQ E st w) (hw:(step (.ED n) fr st).wp (aE P) K) (hc:eX E st w o a next K):o.wp P a w next Q:=
 aP (x:=goInt n) (tY ho (by simp [Builtin.len_,ht,run_underlying hu])) (hc.same hs hw (.deep (.i _ _)))
theorem Rb {x:Operand} {d:bH} {ts:Array TypeId} {t kt el:TypeId} (ho:o.op=.call { callee:=.builtin .len,args:=#[x],argTypes:=ts }) (ht:ts[0]? =some t) (hu:P.underlying t=some (.map kt el)) (hx:cZ x d=true)
 (hs:bQ E st w) (hf:aS E N fr a) (hw:(step (.EE d) fr st).wp (aE P) K) (hc:eX E st w o a next K):o.wp P a w next Q:=by
 have r1:=aQ hx hf
 simp only [step] at hw
 split at hw
 · rename_i e1
   rw [e1] at r1
   generalize hv:a.eval x=y at r1
   cases r1 with
   |deep hd=>cases hd
   |eG=>exact aP (x:=goInt (0:Nat)) (tY ho (by simp [Builtin.len_,ht,hv,run_underlying hu])) (hc.same hs hw (.deep (.i _ _)))
 · rename_i k e1
   rw [e1] at r1
   obtain ⟨ob,eQ,hw⟩:=hw
   dsimp only at hw
   split at hw
   case h_2=>exact hw.elim
   rename_i kd es
   generalize hv:a.eval x=y at r1
   cases r1 with
   |deep hd=>cases hd
   |m _ hk=>
    obtain ⟨aY,clock,q1,q2,_⟩:=hs.obj k _ eQ
    refine aP (x:=goInt es.length) (tY ho ?_) (hc.same hs hw (.deep (.i _ _)))
    simp [Builtin.len_,ht,hv,run_underlying hu,getObj,Sem.run,q1,q2]
 · exact hw.elim
theorem dG {lo:Option Operand} {d:Option bH} (hl:tN lo d=true) (hf:aS E N fr a) {n l:Int} (h:dW (bH.tJ fr d) n=some l):
 (lo.map a.eval=none/\bH.tJ fr d=none/\l=n)\/∃ k,lo.map a.eval=some (.int k l):=by
 rcases Ks hf hl with ⟨h1,h2⟩|⟨y,v,h1,h2,h3⟩
 · rw [h2] at h
   simp only [dW,Option.some.injEq] at h
   exact .inl ⟨by rw [h1];rfl,h2,h.symm⟩
 · rw [h2] at h
   simp only [dW] at h
   cases v<;>simp only [tL,Option.some.injEq,reduceCtorEq] at h
   subst h
   have h3:=h3.int
   subst h3
   exact .inr ⟨_,h1⟩
theorem o9 (isSlice:Bool) (len cap:Nat) {lo hi:Option Value} {l h:Int} (hh:(hi=none/\h=len)\/∃ k,hi=some (.int k h)) (hl:(lo=none/\l=0)\/∃ k,lo=some (.int k l))
 (h0:0<=l) (h1:l<=h) (h2:h<=cap):(Instr.sliceBounds isSlice len cap lo hi none).run P w=.ok (l.toNat,h.toNat,cap) w:=by
 have hc1:l<=(h.toNat:Int):=by omega
 have h00:0<=h:=by omega
 have hmx:max h 0=h:=by omega
 have Cb:¬h<l:=by omega
 rcases hh with ⟨rfl,rfl⟩|⟨k,rfl⟩<;>rcases hl with ⟨rfl,rfl⟩|⟨k',rfl⟩<;>simp [Instr.sliceBounds,run_sliceBound,h0,h1,h2,h00,hmx]
theorem OO {t:TypeId} {x:Operand} {lo hi:Option Operand} {d:bH} {l h:Option bH} (ho:o.op=.slice t x lo hi none) (hu:P.underlying t=some .string) (hx:cZ x d=true) (hlo:tN lo l=true) (hhi:tN hi h=true)
 (hs:bQ E st w) (hf:aS E N fr a) (hw:(step (.xQ d l h) fr st).wp (aE P) K) (hc:eX E st w o a next K):o.wp P a w next Q:=by
 have r1:=aQ hx hf
 simp only [step] at hw
 split at hw
 case h_2=>exact hw.elim
 rename_i y e1
 rw [e1] at r1
 have r1:=r1.B3
 unfold T.opt at hw
 split at hw
 case h_2=>exact hw.elim
 rename_i h' hh'
 split at hw
 case h_2=>exact hw.elim
 rename_i l' yF
 obtain ⟨sJ,hw⟩:=hw
 simp only [Bool.and_eq_true,decide_eq_true_eq] at sJ
 obtain ⟨⟨c1,c2⟩,c3⟩:=sJ
 have jN:(str y).size=y.length:=by simp [str,ByteArray.size]
 have b1:=dG hhi hf hh'
 have b2:=dG hlo hf yF
 have hb:=o9 (P:=P) (w:=w) false y.length y.length (lo:=lo.map a.eval) (hi:=hi.map a.eval) (l:=l') (h:=h') (b1.imp (fun q=>⟨q.1,q.2.2⟩) id) (b2.imp (fun q=>⟨q.1,q.2.2⟩) id) c1 c2 c3
 refine aP (x:=.string (str ((y.take h'.toNat).drop l'.toNat))) ?_ (hc.same hs hw (.deep (.s _)))
 have he:(str y).extract l'.toNat h'.toNat=str ((y.take h'.toNat).drop l'.toNat):=by
  apply ByteArray.ext
  apply Array.ext'
  simp only [ByteArray.data_extract,str,Array.toList_extract]
  simp [List.drop_take]
 simp [execOp,ho,r1,Instr.sliceAt,Instr.slice,run_underlying hu,jN,hb,he]
theorem Rc {t el:TypeId} {x:Operand} {lo hi:Option Operand} {d:bH} {l h:Option bH} {sz:Nat} (ho:o.op=.slice t x lo hi none) (hu:P.underlying t=some (.slice el)) (hz:(P.info? el).map (·.size)=some sz) (Kw:0<sz)
 (hx:cZ x d=true) (hlo:tN lo l=true) (hhi:tN hi h=true)
 (hs:bQ E st w) (hf:aS E N fr a) (hw:(step (.tK sz d l h none) fr st).wp (aE P) K) (hc:eX E st w o a next K):o.wp P a w next Q:=by
 have r1:=aQ hx hf
 cases hq:P.info? el with
 |none=>simp [hq] at hz
 |some i=>
 have hi2:i.size=sz:=by simpa [hq] using hz
 have dO:∀ {p:Option Addr} {len cap:Nat} {l' h':Int},a.eval x=.slice p len cap->(Instr.sliceBounds true len cap (lo.map a.eval) (hi.map a.eval) none).run P w=.ok (l'.toNat,h'.toNat,cap) w->
  (execOp a.eval o).run P w=.ok (.value (.slice (if cap=l'.toNat then p else p.map (·.add (l'.toNat*sz))) (h'.toNat - l'.toNat) (cap - l'.toNat))) w:=by
  intro p len cap l' h' hv hb
  simp [execOp,ho,hv,Instr.sliceAt,Instr.slice,run_underlying hu,hb,sizeOf,typeInfo,hq,hi2]
 simp only [step] at hw
 split at hw
 · rename_i e1
   rw [e1] at r1
   have r1:=r1.FY
   unfold T.opt at hw
   split at hw
   case h_2=>exact hw.elim
   rename_i h' hh'
   split at hw
   case h_2=>exact hw.elim
   rename_i l' yF
   obtain ⟨sJ,hw⟩:=hw
   simp only [Bool.and_eq_true,decide_eq_true_eq] at sJ
   obtain ⟨rfl,rfl⟩:=sJ
   have b1:=dG hhi hf hh'
   have b2:=dG hlo hf yF
   have hb:=o9 (P:=P) (w:=w) true 0 0 (lo:=lo.map a.eval) (hi:=hi.map a.eval) (l:=0) (h:=0) (b1.imp (fun q=>⟨q.1,q.2.2⟩) id) (b2.imp (fun q=>⟨q.1,q.2.2⟩) id) (by omega) (by omega) (by omega)
   exact aP (dO r1 hb) (hc.same hs hw (by simpa using Rel.deep .aB))
 · rename_i tok eD es e1
   rw [e1] at r1
   split at hw
   case isFalse=>exact hw.elim
   rename_i C9
   subst C9
   obtain ⟨p,cap,hv,Q4,hp⟩:=r1.slv
   split at hw
   · -- avY an upper bound
     rename_i Da
     unfold T.opt at hw
     split at hw
     case h_2=>exact hw.elim
     rename_i l' yF
     obtain ⟨sJ,hw⟩:=hw
     simp only [Bool.and_eq_true,decide_eq_true_eq] at sJ
     obtain ⟨c1,c2⟩:=sJ
     have b2:=dG hlo hf yF
     have hnn:hi.map a.eval=none:=by
      rcases Ks hf hhi with ⟨h1,_⟩|⟨_,_,_,h2,_⟩
      · rw [h1];rfl
      · rw [Da] at h2;cases h2
     have hb:=o9 (P:=P) (w:=w) true es.length cap (lo:=lo.map a.eval) (hi:=hi.map a.eval) (l:=l') (h:=(es.length:Int)) (.inl ⟨hnn,rfl⟩) (b2.imp (fun q=>⟨q.1,q.2.2⟩) id) c1 c2 (by omega)
     have hln:l'.toNat<=es.length:=by omega
     have hlen:(es.length:Int).toNat - l'.toNat=(es.drop l'.toNat).length:=by simp
     refine aP (dO hv hb) (hc.same hs hw ?_)
     rw [hlen]
     rcases hp with ⟨rfl,rfl,rfl⟩|⟨bI,off,val,rfl,hl,Om,Us,htk⟩
     · have:l'.toNat=0:=by simpa using hln
       rw [this]
       exact .deep (.Cx _ _)
     · have Ky:∀ e∈es.drop l'.toNat,e.length=eD:=fun e he=>hl e (List.mem_of_mem_drop he)
       by_cases sH:cap=l'.toNat
       · have KE:es.drop l'.toNat=[]:=List.drop_eq_nil_of_le (by omega)
         rw [if_pos sH,sH,Nat.sub_self,KE]
         have hd:eH E.I (.sl none eD []) (.slice (some ⟨bI,off,none⟩) 0 0):=.sl eD [] bI off 0 (fun _=>default) (Nat.le_refl _) (fun e he=>by cases he) (fun j d hj=>by simp at hj) (fun j d hj=>by simp at hj)
         cases tok with
         |none=>exact .deep hd
         |some k=>
          obtain ⟨k1,k2,k3⟩:=htk k rfl
          exact .FU _ _ _ _ _ k1 hd ⟨k2,rfl⟩ (.inl rfl)
       · rw [if_neg sH]
         have UL:=lI hl l'.toNat
         have hd:eH E.I (.sl none eD (es.drop l'.toNat)) (.slice (some ⟨bI,off+l'.toNat*eD,none⟩) (es.drop l'.toNat).length (cap - l'.toNat)):=by
          refine .sl eD _ bI (off+l'.toNat*eD) _ (fun j=>val (l'.toNat*eD+j)) (by simp;omega) Ky (fun j d hj=>?_) (fun j d hj=>?_)
          · rw [UL,List.getElem?_drop] at hj
            rw [Nat.add_assoc];exact Om _ d hj
          · rw [UL,List.getElem?_drop] at hj
            exact Us _ d hj
         simp only [Option.map_some,Addr.add_lit]
         cases tok with
         |none=>exact .deep hd
         |some k=>
          obtain ⟨k1,k2,k3⟩:=htk k rfl
          refine .FU _ _ _ _ _ k1 hd ⟨k2,rfl⟩ ?_
          rw [List.length_drop]
          rcases k3 with k3|⟨k3,k4⟩
          · exact .inl (by omega)
          · refine .inr ⟨?_,?_⟩
            · simp only [Nat.sub_mul]
              have:l'.toNat*eD<=es.length*eD:=Nat.mul_le_mul_right _ hln
              omega
            · simp only [Nat.sub_mul]
              have:l'.toNat*eD<=cap*eD:=Nat.mul_le_mul_right _ (by omega)
              omega
   · rename_i v ahG
     unfold T.opt at hw
     split at hw
     case h_2=>exact hw.elim
     rename_i h' hh'
     split at hw
     case h_2=>exact hw.elim
     rename_i l' yF
     obtain ⟨sJ,hw⟩:=hw
     simp only [Bool.and_eq_true,decide_eq_true_eq] at sJ
     obtain ⟨⟨c1,c2⟩,c3⟩:=sJ
     have b1:=dG (n:=0) (l:=h') hhi hf (by rw [ahG];exact hh')
     have b1:∃ k,hi.map a.eval=some (.int k h'):=by
      rcases b1 with ⟨_,q,_⟩|q
      · rw [ahG] at q;cases q
      · exact q
     have b2:=dG hlo hf yF
     have hb:=o9 (P:=P) (w:=w) true es.length cap (lo:=lo.map a.eval) (hi:=hi.map a.eval) (l:=l') (h:=h') (.inr b1) (b2.imp (fun q=>⟨q.1,q.2.2⟩) id) c1 c2 (by omega)
     have hlen:h'.toNat - l'.toNat=((es.take h'.toNat).drop l'.toNat).length:=by simp;omega
     refine aP (dO hv hb) (hc.same hs hw ?_)
     rw [hlen]
     rcases hp with ⟨rfl,rfl,rfl⟩|⟨bI,off,val,rfl,hl,Om,Us,htk⟩
     · simp only [List.take_nil,List.drop_nil,List.length_nil,Nat.zero_sub]
       exact .deep (.Cx _ _)
     · have dZ:∀ e∈es.take h'.toNat,e.length=eD:=fun e he=>hl e (List.mem_of_mem_take he)
       have Ky:∀ e∈(es.take h'.toNat).drop l'.toNat,e.length=eD:=fun e he=>dZ e (List.mem_of_mem_drop he)
       by_cases sH:cap=l'.toNat
       · have KE:(es.take h'.toNat).drop l'.toNat=[]:=List.drop_eq_nil_of_le (by simp;omega)
         rw [if_pos sH,sH,Nat.sub_self,KE]
         exact .deep (.sl eD [] bI off 0 (fun _=>default) (Nat.le_refl _) (fun e he=>by cases he) (fun j d hj=>by simp at hj) (fun j d hj=>by simp at hj))
       · rw [if_neg sH]
         have UL:∀ j d,((es.take h'.toNat).drop l'.toNat).flatten[j]? =some d->es.flatten[l'.toNat*eD+j]? =some d:=by
          intro j d hj
          rw [lI dZ,lH hl,List.getElem?_drop,List.getElem?_take] at hj
          split at hj
          · exact hj
          · cases hj
         simp only [Option.map_some,Addr.add_lit]
         refine .deep (.sl eD _ bI (off+l'.toNat*eD) _ (fun j=>val (l'.toNat*eD+j)) (by simp;omega) Ky (fun j d hj=>?_) (fun j d hj=>?_))
         · rw [Nat.add_assoc];exact Om _ d (UL j d hj)
         · exact Us _ d (UL j d hj)
 · rename_i k eD off len e1
   rw [e1] at r1
   split at hw
   case isFalse=>exact hw.elim
   rename_i C9
   subst C9
   unfold T.opt at hw
   split at hw
   case h_2=>exact hw.elim
   rename_i h' hh'
   split at hw
   case h_2=>exact hw.elim
   rename_i l' yF
   obtain ⟨ob,eQ,hw⟩:=hw
   dsimp only at hw
   split at hw
   case h_2=>exact hw.elim
   rename_i eP es
   split at hw
   case isFalse=>exact hw.elim
   rename_i C9
   subst C9
   obtain ⟨sJ,hw⟩:=hw
   simp only [Bool.and_eq_true,decide_eq_true_eq] at sJ
   obtain ⟨⟨c1,c2⟩,c3⟩:=sJ
   have b1:=dG hhi hf hh'
   have b2:=dG hlo hf yF
   generalize hv:a.eval x=y at r1
   cases r1 with
   |deep hd=>cases hd
   |ms _ _ _ _ ad cap hk Q4 hh EI ha=>
    obtain ⟨hl,cells,ty,fz,q1,q2,q3,q4,q5⟩:=hs.obj k _ eQ
    have UK:=cF hl
    have sH:es.length<=off+cap:=by
     have:es.length*eP<=(off+cap)*eP:=by omega
     exact Nat.le_of_mul_le_mul_right this Kw
    have hb:=o9 (P:=P) (w:=w) true len cap (lo:=lo.map a.eval) (hi:=hi.map a.eval) (l:=l') (h:=h') (b1.imp (fun q=>⟨q.1,q.2.2⟩) id) (b2.imp (fun q=>⟨q.1,q.2.2⟩) id) c1 c2 (by omega)
    refine aP (dO hv hb) (hc.same hs hw ?_)
    have e0:(if cap=l'.toNat then some ad else Option.map (fun x:Addr=>x.add (l'.toNat*eP)) (some ad))=some (if cap=l'.toNat then ad else ad.add (l'.toNat*eP)):=by split<;>rfl
    rw [e0]
    refine .ms _ _ _ _ _ _ hk (by omega) ?_ ?_ ?_
    · rw [<-hh]
      congr 2
      omega
    · split
      · exact EI
      · simp only [Addr.add]
        split<;>exact EI
    · by_cases axJ:cap=l'.toNat
      · exact .inl (by omega)
      · rw [if_neg axJ]
        refine .inr ?_
        rcases ha with h|h
        · omega
        · rw [h,Addr.add_lit,Nat.add_mul]
          congr 1;omega
 · exact hw.elim
theorem Re {t el:TypeId} {x y:Operand} {d c:bH} {sz:Nat} (ho:o.op=.indexAddr t x y) (hx:cZ x d=true) (hy:cZ y c=true)
 (hu:P.underlying t=some (.slice el)) (hz:(P.info? el).map (·.size)=some sz)
 (hs:bQ E st w) (hf:aS E N fr a) (hw:(step (.Ey sz d c) fr st).wp (aE P) K) (hc:eX E st w o a next K):o.wp P a w next Q:=by
 have r1:=aQ hx hf
 have r2:=aQ hy hf
 cases hq:P.info? el with
 |none=>simp [hq] at hz
 |some i=>
 have hi:i.size=sz:=by simpa [hq] using hz
 simp only [step] at hw
 split at hw
 case h_2=>exact hw.elim
 rename_i kd n e2
 rw [e2] at r2
 have r2:=r2.int
 have dO:∀ {p:Addr} {len cap:Nat},a.eval x=.slice (some p) len cap->0<=n->n<len->(execOp a.eval o).run P w=.ok (.value (.pointer (some (p.add (n.toNat*sz))))) w:=by
  intro p len cap hv h0 h1
  simp [execOp,ho,hv,r2,Instr.indexAt,asIntOf,run_underlying hu,sizeOf,typeInfo,hq,hi,h0,h1]
 split at hw
 · rename_i tok eD es e1
   rw [e1] at r1
   split at hw
   case isFalse=>exact hw.elim
   rename_i C9
   subst C9
   obtain ⟨rM,e,he,hw⟩:=hw
   rw [vV] at rM
   have dZ:n.toNat<es.length:=(List.getElem?_eq_some_iff.1 he).1
   obtain ⟨p,cap,hv,Q4,hp⟩:=r1.slv
   rcases hp with ⟨rfl,rfl,rfl⟩|⟨bI,off,val,rfl,hl,Om,Us,htk⟩
   · simp at dZ
   · refine aP (dO hv rM.1 rM.2) (hc.same hs hw ?_)
     rw [Addr.add_lit]
     have Ij:e.length=eD:=hl e (List.mem_of_getElem? he)
     have hfg:∀ j d,e[j]? =some d->es.flatten[n.toNat*eD+j]? =some d:=by
      intro j d hj
      have OE:j<eD:=by
       have:=(List.getElem?_eq_some_iff.1 hj).1
       omega
      rw [o6 hl he OE];exact hj
     exact .pc e 0 bI (off+n.toNat*eD) (fun j=>val (n.toNat*eD+j)) (fun j d hj=>by rw [Nat.add_assoc];exact Om _ d (hfg j d hj)) (fun j d hj=>Us _ d (hfg j d hj))
 · rename_i k eD off len e1
   rw [e1] at r1
   split at hw
   case isFalse=>exact hw.elim
   rename_i C9
   subst C9
   obtain ⟨rM,hw⟩:=hw
   rw [vV] at rM
   generalize hv:a.eval x=y at r1
   cases r1 with
   |deep hd=>cases hd
   |ms _ _ _ _ ad cap hk Q4 hh EI ha=>
    have ha:ad=⟨(E.μ k).bI,(E.μ k).base+off*eD,none⟩:=by
     rcases ha with h|h
     · omega
     · exact h
    subst ha
    refine aP (dO hv rM.1 rM.2) (hc.same hs hw ?_)
    rw [Addr.add_lit]
    have:=Rel.pa (E:=E) k eD (off+n.toNat) 0 hk
    rw [Nat.add_mul,Nat.add_zero,<-Nat.add_assoc] at this
    exact this
 · exact hw.elim
def UY (P:Program) (t:TypeId) (e:bH):Bool:=
 match P.underlying t,e with
 |some (.pointer _),.c .fM=>true
 |some (.slice _),.c .aB=>true
 |some (.map _ _),.c .eG=>true
 |some (.func _ _ _),.c .fN=>true
 |_,_=>false
theorem aeO (v:V):bH.ev fr (.c v)=v:=rfl
theorem Db (d:Nat) {t el:TypeId} (hu:P.underlying t=some (.pointer el)) (p:Option Addr) (w:World):(Op.equalIn (d+1) t (.pointer p) (.pointer none)).run P w=.ok p.isNone w:=by
 cases p<;>simp [Op.equalIn,run_underlying hu]
theorem KF (d:Nat) {t kt el:TypeId} (hu:P.underlying t=some (.map kt el)) (p:Option Nat) (w:World):(Op.equalIn (d+1) t (.map p) (.map none)).run P w=.ok p.isNone w:=by
 cases p<;>simp [Op.equalIn,run_underlying hu]
theorem OP (d:Nat) {t el:TypeId} (hu:P.underlying t=some (.slice el)) (p:Option Addr) (n c:Nat) (w:World):(Op.equalIn (d+1) t (.slice p n c) (.slice none 0 0)).run P w=.ok p.isNone w:=by
 cases p<;>simp [Op.equalIn,run_underlying hu]
theorem FZ (d:Nat) {t:TypeId} {x1:Array TypeId} {x2:Array TypeId} {x3:Bool} (hu:P.underlying t=some (.func x1 x2 x3)) (x:Value) {b:Bool} (w:World) (hb:(match x with|.nilFunc=>some true|.func _ _ _=>some false|_=>none)=some b):(Op.equalIn (d+1) t x .nilFunc).run P w=.ok b w:=by
 cases x<;>simp at hb<;>subst hb<;>simp [Op.equalIn,run_underlying hu]
theorem Rh {t:TypeId} {x y:Value} {neg b:Bool} {op:BinOp} (Ip:op=if neg then .neq else .eql) (UZ:x matches .pointer _|.slice _ _ _|.map _|.func _ _ _|.nilFunc) (h:(Op.equal t x y).run P w=.ok b w):
 (binOp op t x y).run P w=.ok (.bool (if neg then !b else b)) w:=by
 subst Ip
 cases neg<;>cases x<;>simp at UZ<;>simp [binOp,h]
theorem U0 {op:BinOp} {t yt:TypeId} {x y:Operand} {neg b:Bool} (ho:o.op=.binOp op t x y yt) (Ip:op=if neg then .neq else .eql) (UZ:a.eval x matches .pointer _|.slice _ _ _|.map _|.func _ _ _|.nilFunc)
 (anV:a.eval x=.nilFunc->∀ r,eqGuard op t x y .nilFunc r=pure ())
 (h:(Op.equal t (a.eval x) (a.eval y)).run P w=.ok b w):(execOp a.eval o).run P w=.ok (.value (.bool (if neg then !b else b))) w:=by
 have h1:=Rh Ip UZ h
 have hg:eqGuard op t x y (a.eval x) (a.eval y)=pure ():=by
  cases hv:a.eval x<;>rw [hv] at UZ<;>simp at UZ
  · exact eqGuard_at_pointer _ _ _ _ _ _
  · exact eqGuard_at_slice _ _ _ _ _ _ _ _
  · exact eqGuard_at_map _ _ _ _ _ _
  · exact eqGuard_at_func _ _ _ _ _ _ _ _
  · exact anV hv _
 exact fA ho hg h1
theorem U1 {op:BinOp} {t yt:TypeId} {x y:Operand} {d e:bH} {neg:Bool} (ho:o.op=.binOp op t x y yt) (Ip:op=if neg then .neq else .eql) (hx:cZ x d=true) (hy:cZ y e=true) (hn:UY P t e=true)
 (hs:bQ E st w) (hf:aS E N fr a) (hw:(step (.eqn neg d e) fr st).wp (aE P) K) (hc:eX E st w o a next K):o.wp P a w next Q:=by
 have r1:=aQ hx hf
 have r2:=aQ hy hf
 have fin:∀ b:Bool,(Op.equal t (a.eval x) (a.eval y)).run P w=.ok b w->(a.eval x matches .pointer _|.slice _ _ _|.map _|.func _ _ _|.nilFunc)->K (.b (if neg then !b else b),st)->o.wp P a w next Q:=by
  intro b h hm hk
  exact aP (U0 ho Ip hm (fun _ r=>by cases op<;>rfl) h) (hc.same hs hk (.deep (.b _)))
 have t1:(if neg then !true else true)=!neg:=by cases neg<;>rfl
 have t2:(if neg then !false else false)=neg:=by cases neg<;>rfl
 unfold UY at hn
 split at hn
 · rename_i el hu
   have On:a.eval y=.pointer none:=by
    generalize a.eval y=z at r2
    cases r2 with
    |deep hd=>cases hd
    |fM=>rfl
   simp only [step,vU,aeO] at hw
   split at hw
   · rename_i e1
     rw [e1] at r1
     generalize hv:a.eval x=z at r1
     cases r1 with
     |deep hd=>cases hd
     |fM=>exact fin true (by rw [hv,On];exact Db 9999 hu _ w) (by simp [hv]) (by rw [t1];exact hw)
   · rename_i e1
     rw [e1] at r1
     generalize hv:a.eval x=z at r1
     cases r1 with
     |deep hd=>cases hd
     |p=>exact fin false (by rw [hv,On];exact Db 9999 hu _ w) (by simp [hv]) (by rw [t2];exact hw)
   · rename_i e1
     rw [e1] at r1
     generalize hv:a.eval x=z at r1
     cases r1 with
     |deep hd=>cases hd
     |pa=>exact fin false (by rw [hv,On];exact Db 9999 hu _ w) (by simp [hv]) (by rw [t2];exact hw)
   · exact hw.elim
 · rename_i el hu
   have On:a.eval y=.slice none 0 0:=r2.FY
   have Kf:∀ p n c,a.eval x=.slice p n c->(Op.equal t (a.eval x) (a.eval y)).run P w=.ok p.isNone w:=by
    intro p n c h
    rw [h,On]
    exact OP 9999 hu _ _ _ w
   simp only [step,vU,aeO] at hw
   split at hw
   · rename_i e1
     rw [e1] at r1
     exact fin true (Kf _ _ _ r1.FY) (by simp [r1.FY]) (by rw [t1];exact hw)
   · rename_i tok sz es e1
     rw [e1] at r1
     obtain ⟨p,cap,hv,Q4,hp⟩:=r1.slv
     have hm:a.eval x matches .pointer _|.slice _ _ _|.map _|.func _ _ _|.nilFunc:=by simp [hv]
     split at hw
     · rename_i k
       rcases hp with ⟨_,_,h⟩|⟨bI,off,val,rfl,_⟩
       · cases h
       · exact fin false (Kf _ _ _ hv) hm (by rw [t2];exact hw)
     · by_cases hem:es.isEmpty=true
       · have hw:=hw.1 hem
         exact fin _ (Kf _ _ _ hv) hm (hw _)
       · have hw:=hw.2 (by simpa using hem)
         rcases hp with ⟨h,_⟩|⟨bI,off,val,rfl,_⟩
         · subst h;simp at hem
         · exact fin false (Kf _ _ _ hv) hm (by rw [t2];exact hw)
   · rename_i k sz off len e1
     rw [e1] at r1
     generalize hv:a.eval x=z at r1
     cases r1 with
     |deep hd=>cases hd
     |ms=>exact fin false (Kf _ _ _ hv) (by simp [hv]) (by rw [t2];exact hw)
   · exact hw.elim
 · rename_i kt el hu
   have On:a.eval y=.map none:=by
    generalize a.eval y=z at r2
    cases r2 with
    |deep hd=>cases hd
    |eG=>rfl
   simp only [step,vU,aeO] at hw
   split at hw
   · rename_i e1
     rw [e1] at r1
     generalize hv:a.eval x=z at r1
     cases r1 with
     |deep hd=>cases hd
     |eG=>exact fin true (by rw [hv,On];exact KF 9999 hu _ w) (by simp [hv]) (by rw [t1];exact hw)
   · rename_i e1
     rw [e1] at r1
     generalize hv:a.eval x=z at r1
     cases r1 with
     |deep hd=>cases hd
     |m=>exact fin false (by rw [hv,On];exact KF 9999 hu _ w) (by simp [hv]) (by rw [t2];exact hw)
   · exact hw.elim
 · rename_i x1 x2 x3 hu
   have On:a.eval y=.nilFunc:=by
    generalize a.eval y=z at r2
    cases r2 with
    |deep hd=>cases hd
    |fN=>rfl
   simp only [step,vU,aeO] at hw
   split at hw
   · rename_i e1
     rw [e1] at r1
     generalize hv:a.eval x=z at r1
     cases r1 with
     |deep hd=>cases hd
     |fN=>exact fin true (by rw [hv,On];exact FZ 9999 hu _ w rfl) (by simp [hv]) (by rw [t1];exact hw)
   · rename_i e1
     rw [e1] at r1
     generalize hv:a.eval x=z at r1
     cases r1 with
     |deep hd=>cases hd
     |fn=>exact fin false (by rw [hv,On];exact FZ 9999 hu _ w rfl) (by simp [hv]) (by rw [t2];exact hw)
   · exact hw.elim
 · cases hn
end
open Go
section
variable {P:Program} {o:Oper} {a:Act} {E:Env} {N:Nat} {st:St} {w:World} {fr:Fr} {next:Act->World->Prop} {Q:Exit->Act->World->Prop} {K:R->Prop}
theorem KG (len cap:Nat) {lo hi mx:Option Value} {l h m:Int} (hh:∃ k,hi=some (.int k h)) (hm:∃ k,mx=some (.int k m)) (hl:(lo=none/\l=0)\/∃ k,lo=some (.int k l))
 (h0:0<=l) (h1:l<=h) (h2:h<=m) (h3:m<=cap):(Instr.sliceBounds true len cap lo hi mx).run P w=.ok (l.toNat,h.toNat,m.toNat) w:=by
 have c0:0<=m:=by omega
 have c1:0<=h:=by omega
 have d1:max m 0=m:=by omega
 have d2:max h 0=h:=by omega
 obtain ⟨k,rfl⟩:=hh
 obtain ⟨k',rfl⟩:=hm
 have n1:¬m<h:=by omega
 have n2:¬h<l:=by omega
 rcases hl with ⟨rfl,rfl⟩|⟨k2,rfl⟩<;>simp [Instr.sliceBounds,run_sliceBound,h0,h1,h2,h3,c0,c1,d1,d2]
theorem OQ {t el:TypeId} {x:Operand} {lo hi mx:Option Operand} {d:bH} {l h m:Option bH} {sz:Nat} (ho:o.op=.slice t x lo hi mx) (hu:P.underlying t=some (.slice el)) (hz:(P.info? el).map (·.size)=some sz) (Kw:0<sz)
 (hx:cZ x d=true) (hlo:tN lo l=true) (hhi:tN hi h=true) (hmx:tN mx m=true) (hhs:h.isSome=true) (hms:m.isSome=true)
 (hs:bQ E st w) (hf:aS E N fr a) (hw:(step (.tK sz d l h m) fr st).wp (aE P) K) (hc:eX E st w o a next K):o.wp P a w next Q:=by
 have r1:=aQ hx hf
 cases hq:P.info? el with
 |none=>simp [hq] at hz
 |some i=>
 have hi2:i.size=sz:=by simpa [hq] using hz
 obtain ⟨h1,rfl⟩:=Option.isSome_iff_exists.1 hhs
 obtain ⟨m1,rfl⟩:=Option.isSome_iff_exists.1 hms
 simp only [step] at hw
 split at hw
 · exact hw.elim
 · split at hw
   · exact hw.elim
   · exact hw.elim
 · rename_i k eD off len e1
   rw [e1] at r1
   split at hw
   case isFalse=>exact hw.elim
   rename_i C9
   subst C9
   unfold T.opt at hw
   split at hw
   case h_2=>exact hw.elim
   rename_i h' hh'
   split at hw
   case h_2=>exact hw.elim
   rename_i l' yF
   obtain ⟨ob,eQ,hw⟩:=hw
   dsimp only at hw
   split at hw
   case h_2=>exact hw.elim
   rename_i eP es
   split at hw
   case isFalse=>exact hw.elim
   rename_i C9
   subst C9
   split at hw
   case h_2=>exact hw.elim
   rename_i m' hm'
   obtain ⟨sJ,hw⟩:=hw
   simp only [Bool.and_eq_true,decide_eq_true_eq] at sJ
   obtain ⟨⟨⟨c1,c2⟩,c3⟩,c4⟩:=sJ
   have b1:∃ k,hi.map a.eval=some (.int k h'):=by
    rcases dG (n:=len) hhi hf hh' with ⟨_,q,_⟩|q
    · cases q
    · exact q
   have b3:∃ k,mx.map a.eval=some (.int k m'):=by
    rcases dG (n:=0) (l:=m') hmx hf hm' with ⟨_,q,_⟩|q
    · cases q
    · exact q
   have b2:=dG hlo hf yF
   generalize hv:a.eval x=y at r1
   cases r1 with
   |deep hd=>cases hd
   |ms _ _ _ _ ad cap hk Q4 hh EI ha=>
    obtain ⟨hl,cells,ty,fz,q1,q2,q3,q4,q5⟩:=hs.obj k _ eQ
    have UK:=cF hl
    have sH:es.length<=off+cap:=by
     have:es.length*eP<=(off+cap)*eP:=by omega
     exact Nat.le_of_mul_le_mul_right this Kw
    have hb:=KG (P:=P) (w:=w) len cap (lo:=lo.map a.eval) (hi:=hi.map a.eval) (mx:=mx.map a.eval) (l:=l') (h:=h') (m:=m') b1 b3 (b2.imp (fun q=>⟨q.1,q.2.2⟩) id) c1 c2 c3 (by omega)
    have dO:(execOp a.eval o).run P w=.ok (.value (.slice (if m'.toNat=l'.toNat then some ad else (some ad).map (·.add (l'.toNat*eP))) (h'.toNat - l'.toNat) (m'.toNat - l'.toNat))) w:=by
     simp [execOp,ho,hv,Instr.sliceAt,Instr.slice,run_underlying hu,hb,sizeOf,typeInfo,hq,hi2]
    exact aP dO (hc.same hs hw (.bL _))
 · exact hw.elim
end
end Go.Eng
