/-
Each operation of the model does what the abstract step says (part five: new objects).
-/
import Derived.Test.YtdjbjnnfmkoceaaGreatX00
import Derived.Laws.BytesString
import Derived.Laws.Slices
set_option linter.unusedVariables false
set_option linter.unusedSimpArgs false
namespace Go.Eng
open Go
structure kO (w w':World):Prop where
 os:w'.os=w.os
 out:w'.output=w.output
 tape:w'.tape=w.tape
theorem Env.C0 (E:Env) (g g':Bool) (L:Loc) (J:rK):(E.CM g').Le ((E.push g L J).CM g'):=by
 cases g' with
 |true=>exact Env.wW (Env.kK E g L J)
 |false=>exact Env.kK E g L J
theorem Env.AG (E F:Env) (g:Bool):F.at (E.aE g)=F.CM g:=by cases g<;>rfl
section
variable {E:Env} {st:St} {w w':World}
theorem bC.newRow {z:Nat} (h:bC E st w) (gone:Option Key) (g:Bool) {cells:Array Value} {t:TypeId} {fz:Nat×Nat} (EJ:mV z fz cells.size) (hh:w'.heap=w.heap.push (.cells cells t fz)) (ho:kO w w')
 (ob:Obj) (cs:List V) (dC:∀ F (L:Loc),L.base=0->eH z F w' L cs->Holds F w' L ob) (hl:cs.length<=cells.size)
 (hr:∀ (j:Nat) (v:V),cs[j]? =some v->∃ x,cells[j]? =some x/\Rel (E.CM g) v x/\x.oneCell'=true):
 ∃ E',bC E' ((match gone with|some k=>st.remove k|none=>st).push g ob) w'/\Ext E st w E' ((match gone with|some k=>st.remove k|none=>st).push g ob) w'/\
  E'.has (st.aE g)/\E'.μ (st.aE g)=⟨w.heap.size,0,cells.size⟩:=by
 have e9:eH z ((E.push g ⟨w.heap.size,0,cells.size⟩ fun b j=>if b=w.heap.size then (fun _=>none) j else none).at (E.aE g)) w' ⟨w.heap.size,0,cells.size⟩ cs:=by
  refine ⟨cells,t,fz,by simp [hh],EJ,by simpa using hl,Nat.le_refl _,fun j v hj=>?_⟩
  obtain ⟨x,hx,s6,h1⟩:=hr j v hj
  refine ⟨x,by simpa using hx,?_,h1⟩
  rw [Env.AG]
  exact s6.mono (Env.C0 _ _ _ _ _)
 obtain ⟨h1,h2⟩:=h.fresh gone g 0 cells.size (fun _=>none) ob _ hh ho.os ho.out ho.tape (fun j x hx=>by cases hx) (dC _ _ rfl e9)
 refine ⟨_,h1,h2,?_,?_⟩
 · rw [h.aE];exact Env.cW _ _ _ _
 · rw [h.aE];exact Env.dP _ _ _ _
theorem bC.RS {z:Nat} (h:bC E st w) (gone:Option Key) (g:Bool) {cells:Array Value} {t:TypeId} {fz:Nat×Nat} (EJ:mV z fz cells.size) (hh:w'.heap=w.heap.push (.cells cells t fz)) (ho:kO w w')
 (n:Nat) (hn:n<=cells.size):
 ∃ E',bC E' ((match gone with|some k=>st.remove k|none=>st).push g .spare) w'/\Ext E st w E' ((match gone with|some k=>st.remove k|none=>st).push g .spare) w'/\
  E'.has (st.aE g)/\E'.μ (st.aE g)=⟨w.heap.size,n,cells.size⟩/\∀ j,j<n->E'.I w.heap.size j=cells[j]? :=by
 have hold:∀ j,E.I w.heap.size j=none:=by
  intro j
  cases hI:E.I w.heap.size j with
  |none=>rfl
  |some x=>have:=h.gJ _ _ _ hI;simp [aT] at this
 have e9:eH 1 ((E.push g ⟨w.heap.size,n,cells.size⟩ fun b j=>if b=w.heap.size then (fun j=>if j<n then cells[j]? else none) j else none).at (E.aE g)) w' ⟨w.heap.size,n,cells.size⟩ []:=
  ⟨cells,t,fz,by simp [hh],EJ.one,by simpa using hn,Nat.le_refl _,fun j v hj=>by simp at hj⟩
 obtain ⟨h1,h2⟩:=h.fresh gone g n cells.size (fun j=>if j<n then cells[j]? else none) .spare _ hh ho.os ho.out ho.tape (fun j x hx=>by
  split at hx
  · exact ⟨⟨_,_,_,rfl,hx⟩,by omega⟩
  · cases hx) e9
 refine ⟨_,h1,h2,?_,?_,?_⟩
 · rw [h.aE];exact Env.cW _ _ _ _
 · rw [h.aE];exact Env.dP _ _ _ _
 · intro j hj
   simp [Env.push,hold,hj]
theorem bC.RT (h:bC E st w) (g:Bool) (kd:Option IntKind):∃ E',bC E' (st.push g (.mp kd [])) (w.alloc (.map #[] 0))/\Ext E st w E' (st.push g (.mp kd [])) (w.alloc (.map #[] 0))/\
 E'.has (st.aE g)/\(E'.μ (st.aE g)).aW=w.heap.size:=by
 obtain ⟨h1,h2⟩:=h.fresh (w':=w.alloc (.map #[] 0)) none g 0 0 (fun _=>none) (.mp kd []) (.map #[] 0) rfl rfl rfl rfl (fun j x hx=>by cases hx)
  ⟨#[],0,(by show (w.heap.push _)[w.heap.size]? =_;simp),rfl,(fun j q e hq=>by simp at hq),⟨fun x hx=>by simp at hx,by simp⟩⟩
 refine ⟨_,h1,h2,?_,?_⟩
 · rw [h.aE];exact Env.cW _ _ _ _
 · rw [h.aE];rw [Env.dP]
end
def gP (P:Program) (t:TypeId) (zs:List V):Bool:=
 match P.info? t with
 |some i=>match i.zero with
  |some z=>decide (z.cells.size=zs.length)&&decide (i.size=zs.length)&&z.cells.all (·.oneCell')&&(z.cells.toList.zip zs).all fun q=>kM 4 q.1 q.2
  |none=>false
 |none=>false
theorem fA {P:Program} {t:TypeId} {zs:List V} (h:gP P t zs=true):
 ∃ i z,P.info? t=some i/\i.zero=some z/\i.size=zs.length/\(∀ E,cP E zs z.cells)/\z.cells.size=zs.length/\∀ (j:Nat) (x:Value),z.cells[j]? =some x->x.oneCell'=true:=by
 unfold gP at h
 split at h
 · rename_i i hi
   split at h
   · rename_i z hz
     simp only [Bool.and_eq_true,decide_eq_true_eq] at h
     refine ⟨i,z,hi,hz,h.1.1.2,fun E=>⟨h.1.1.1,fun j v x hj hx=>gC (Bp h.2 (by rw [Array.getElem?_toList];exact hx) hj) E⟩,h.1.1.1,?_⟩
     intro j x hx
     exact (Array.all_eq_true_iff_forall_mem.1 h.1.2) x (Array.mem_of_getElem? hx)
   · cases h
 · cases h
theorem fR {P:Program} {t:TypeId} {i:TypeInfo} {z:Value} (hi:P.info? t=some i) (hz:i.zero=some z) (w:World):(zeroValue t).run P w=.ok z w:=by
 simp [zeroValue,typeInfo,hi,hz]
section
variable {P:Program} {o:Oper} {a:Act} {E:Env} {N:Nat} {st:St} {w:World} {fr:Fr} {next:Act->World->Prop} {Q:Exit->Act->World->Prop} {K:R->Prop}
theorem E8 {t:TypeId} {g:Bool} {zero:List V} (ho:o.op=.alloc t) (hz:gP P t zero=true) (hs:bC E st w)
 (hw:(step (.alloc g zero) fr st).wp (aB P) K) (hc:dJ E st w o a next K):o.wp P a w next Q:=by
 obtain ⟨i,z,hi,w9,gH,hr,hl,h1⟩:=fA hz
 obtain ⟨E',s1,s2,s3,s4⟩:=hs.newRow (z:=1) (w':=w.alloc (.cells z.cells t)) none g (.inl rfl) rfl ⟨rfl,rfl,rfl⟩ (.cs zero) zero (fun _ _ h0 h=>⟨h0,h⟩) (by omega)
  (fun j v hj=>let ⟨x,hx,s6⟩:=(hr (E.CM g)).get hj;⟨x,hx,s6,h1 j x hx⟩)
 refine aG (x:=.pointer (some ⟨w.heap.size,0,none⟩)) ?_ (hc _ _ E' _ _ hw s1 s2 ?_)
 · simp [execOp,ho,Instr.alloc,fR hi w9,newVar,newRow]
 · have:=Rel.p (E:=E') (st.aE g) 0 s3
   rw [s4] at this
   exact this
theorem Jk {t:TypeId} {x:Operand} {d:aV} {g:Bool} (ho:o.op=.box t x) (hx:b9 x d=true) (hs:bC E st w) (hf:aJ E N fr a)
 (hw:(step (.box g d) fr st).wp (aB P) K) (hc:dJ E st w o a next K):o.wp P a w next Q:=by
 have h1:=aH hx hf
 simp only [step] at hw
 split at hw
 case h_2=>exact hw.elim
 rename_i RP
 unfold T.opt at hw
 split at hw
 case h_2=>exact hw.elim
 rename_i c o5
 obtain ⟨l7,gO⟩:=s9 RP h1
 have rT:=nA o5 l7
 have gH:(a.eval x).cells.size=c.length:=rT.1
 obtain ⟨E',s1,s2,s3,s4⟩:=hs.newRow (w':=w.alloc (.cells (a.eval x).cells t)) none g (.inl rfl) rfl ⟨rfl,rfl,rfl⟩ (.cs c) c (fun _ _ h0 h=>⟨h0,h⟩) (by omega)
  (fun j v hj=>let ⟨x,hx,s6⟩:=rT.get hj;⟨x,hx,s6,gO x (by rw [Array.mem_toList_iff];exact Array.mem_of_getElem? hx)⟩)
 refine aG (x:=.pointer (some ⟨w.heap.size,0,none⟩)) ?_ (hc _ _ E' _ _ hw s1 s2 ?_)
 · simp [execOp,ho,Instr.box,newVar,newRow]
 · have:=Rel.p (E:=E') (st.aE g) 0 s3
   rw [s4] at this
   exact this
theorem E9 {t:TypeId} {g:Bool} {kd:Option IntKind} (ho:o.op=.makeMap t none) (hs:bC E st w)
 (hw:(step (.uF g kd) fr st).wp (aB P) K) (hc:dJ E st w o a next K):o.wp P a w next Q:=by
 obtain ⟨E',s1,s2,s3,s4⟩:=hs.RT g kd
 refine aG (x:=.map (some w.heap.size)) ?_ (hc _ _ E' _ _ hw s1 s2 ?_)
 · simp [execOp,ho,Instr.makeMap]
 · have:=Rel.m (E:=E') (st.aE g) s3
   rw [s4] at this
   exact this
def o6 (P:Program) (fs:Array Field):List (Nat×Operand)->List (Nat×Nat×aV)->Bool
 |[],[]=>true
 |(i,x)::r,(off,sz,d)::q=>(match fs[i]? with
    |some f=>decide (f.offset=off)&&(P.info? f.type).map (·.size)==some sz
    |none=>false)&&b9 x d&&o6 P fs r q
 |_,_=>false
def lQ (sz:Nat):List (Nat×Operand)->List (Nat×Nat×aV)->Bool
 |[],[]=>true
 |(i,x)::r,(off,cS,d)::q=>decide (off=i*sz)&&decide (cS=sz)&&b9 x d&&lQ sz r q
 |_,_=>false
theorem AH (cs:Array Value) (off:Nat):∀ (l:List Value) (k:Nat) (acc:Array Value),(l.zipIdx k).foldl (fun (cs:Array Value) (q:Value×Nat)=>cs.setIfInBounds (off+q.2) q.1) acc=lP acc (off+k) l
 |[],_,_=>rfl
 |v::r,k,acc=>by
  rw [List.zipIdx_cons,List.foldl_cons,AH cs off r]
  rfl
theorem Jl (v:Array Value) (off:Nat) (acc:Array Value):v.zipIdx.foldl (fun (cs:Array Value) (q:Value×Nat)=>cs.setIfInBounds (off+q.2) q.1) acc=lP acc off v.toList:=by
 rw [<-Array.foldl_toList,Array.toList_zipIdx,AH acc off v.toList 0 acc,Nat.add_zero]
theorem Uw {cs:List V} {xs:Array Value} (hr:cP E cs xs) (h1:∀ (j:Nat) (x:Value),xs[j]? =some x->x.oneCell'=true) {off:Nat} {vs:List V} {ys:Array Value} (hv:cP E vs ys) (hy:∀ y∈ys.toList,y.oneCell'=true)
 (kN:off+vs.length<=cs.length):cP E (b8 cs off vs) (lP xs off ys.toList)/\∀ (j:Nat) (x:Value),(lP xs off ys.toList)[j]? =some x->x.oneCell'=true:=by
 have hl:ys.toList.length=vs.length:=by simpa using hv.1
 have hs:=hr.1
 refine ⟨⟨by rw [eZ,e7,hs],fun j v x hj hx=>?_⟩,fun j x hx=>?_⟩
 · rw [e8 _ _ _ _ kN] at hj
   rw [iF _ _ _ _ (by omega)] at hx
   by_cases hc:off<=j/\j<off+vs.length
   · rw [if_pos hc] at hj
     rw [if_pos (by omega)] at hx
     exact hv.2 _ v x hj (by simpa using hx)
   · rw [if_neg hc] at hj
     rw [if_neg (by omega)] at hx
     exact hr.2 _ v x hj hx
 · rw [iF _ _ _ _ (by omega)] at hx
   by_cases hc:off<=j/\j<off+ys.toList.length
   · rw [if_pos hc] at hx
     exact hy x (List.mem_of_getElem? hx)
   · rw [if_neg hc] at hx
     exact h1 j x hx
theorem xA (place:Nat->Option (Nat×Nat)):∀ (_ps:List (Nat×V)) (qs:List (Nat×Nat×V)) (xs:List (Nat×Value)) (cs vR:List V) (ys:Array Value),
 fI cs qs=some vR->cP E cs ys->(∀ (j:Nat) (x:Value),ys[j]? =some x->x.oneCell'=true)->
 qs.length=xs.length->(∀ (j:Nat) (q:Nat×Nat×V) (x:Nat×Value),qs[j]? =some q->xs[j]? =some x->place x.1=some (q.1,q.2.1)/\Rel E q.2.2 x.2)->
 ∃ zs,Instr.fill place ys xs=some zs/\cP E vR zs/\∀ (j:Nat) (x:Value),zs[j]? =some x->x.oneCell'=true:=by
 intro ps qs
 induction qs with
 |nil=>
  intro xs cs vR ys h hr h1 hl _
  simp only [fI,Option.some.injEq] at h
  subst h
  have:xs=[]:=List.eq_nil_of_length_eq_zero hl.symm
  subst this
  exact ⟨ys,rfl,hr,h1⟩
 |cons q r ih=>
  obtain ⟨off,sz,v⟩:=q
  intro xs cs vR ys h hr h1 hl hp
  match xs,hl with
  |(i,x)::xr,hl=>
  simp only [fI] at h
  split at h
  case isFalse=>cases h
  rename_i hc
  obtain ⟨wK,gH,kN⟩:=hc
  obtain ⟨ZE,rT⟩:=hp 0 _ _ rfl rfl
  obtain ⟨l7,gO⟩:=s9 wK rT
  have Ux:x.cells.size=sz:=by rw [l7.1];exact gH
  have ZF:ys.size=cs.length:=hr.1
  obtain ⟨CN,h1'⟩:=Uw hr h1 l7 gO (off:=off) (by omega)
  obtain ⟨zs,uJ,wJ,Gd⟩:=ih xr _ vR _ h CN h1' (by simpa using hl) (fun j q y hq hy=>hp (j+1) q y (by simpa using hq) (by simpa using hy))
  refine ⟨zs,?_,wJ,Gd⟩
  simp only at ZE
  simp only [Instr.fill,ZE]
  rw [if_neg (by simp [Ux];omega)]
  rw [<-uJ]
  congr 1
  exact Jl _ _ _
theorem pY {fs:Array Field} (hf:aJ E N fr a):∀ {ps:List (Nat×Operand)} {qs:List (Nat×Nat×aV)},o6 P fs ps qs=true->
 (cE fr qs).length=ps.length/\∀ (j:Nat) (q:Nat×Nat×V) (p:Nat×Operand),(cE fr qs)[j]? =some q->ps[j]? =some p->(∃ f:Field,fs[p.1]? =some f/\f.offset=q.1/\(P.info? f.type).map (·.size)=some q.2.1)/\Rel E q.2.2 (a.eval p.2)
 |[],[],_=>⟨rfl,fun j q p hq=>by simp [cE] at hq⟩
 |(i,x)::r,(off,sz,d)::q,h=>by
  simp only [o6,Bool.and_eq_true] at h
  obtain ⟨⟨h1,h2⟩,h3⟩:=h
  obtain ⟨l1,l2⟩:=pY hf h3
  refine ⟨by simp [cE,l1],fun j y p hy hp=>?_⟩
  cases j with
  |zero=>
   simp [cE] at hy hp
   subst hy;subst hp
   refine ⟨?_,aH h2 hf⟩
   split at h1
   · rename_i f Xm
     simp only [Bool.and_eq_true,decide_eq_true_eq,beq_iff_eq] at h1
     exact ⟨f,Xm,h1.1,h1.2⟩
   · cases h1
  |succ j=>exact l2 j y p (by simpa [cE] using hy) (by simpa using hp)
 |[],_::_,h=>by cases h
 |(_,_)::_,[],h=>by simp [o6] at h
theorem nD {sz:Nat} (hf:aJ E N fr a):∀ {ps:List (Nat×Operand)} {qs:List (Nat×Nat×aV)},lQ sz ps qs=true->
 (cE fr qs).length=ps.length/\∀ (j:Nat) (q:Nat×Nat×V) (p:Nat×Operand),(cE fr qs)[j]? =some q->ps[j]? =some p->(q.1=p.1*sz/\q.2.1=sz)/\Rel E q.2.2 (a.eval p.2)
 |[],[],_=>⟨rfl,fun j q p hq=>by simp [cE] at hq⟩
 |(i,x)::r,(off,cS,d)::q,h=>by
  simp only [lQ,Bool.and_eq_true,decide_eq_true_eq] at h
  obtain ⟨⟨⟨h0,h1⟩,h2⟩,h3⟩:=h
  obtain ⟨l1,l2⟩:=nD hf h3
  refine ⟨by simp [cE,l1],fun j y p hy hp=>?_⟩
  cases j with
  |zero=>
   simp [cE] at hy hp
   subst hy;subst hp
   exact ⟨⟨h0,h1⟩,aH h2 hf⟩
  |succ j=>exact l2 j y p (by simpa [cE] using hy) (by simpa using hp)
 |[],_::_,h=>by cases h
 |(_,_)::_,[],h=>by simp [lQ] at h
theorem mapM_ok {α β:Type} {f:α->Sem β} {g:α->β}:∀ (l:List α),(∀ x∈l,(f x).run P w=.ok (g x) w)->(l.mapM f).run P w=.ok (l.map g) w
 |[],_=>rfl
 |x::r,h=>by
  have h1:=h x (.head _)
  have h2:=mapM_ok r (fun y hy=>h y (.tail _ hy))
  rw [List.mapM_cons]
  simp only [Sem.run_bind,h1,h2,Result.andThen_ok,Sem.run_pure,List.map_cons]
theorem Jm {α β:Type} {f:α->Sem β} {g:α->β} (l:Array α) (h:∀ x∈l.toList,(f x).run P w=.ok (g x) w):(l.mapM f).run P w=.ok (l.map g) w:=by
 have:=mapM_ok (P:=P) (w:=w) l.toList h
 cases l with
 |mk l=>
  rw [List.mapM_toArray]
  simp only at this
  rw [map_eq_pure_bind]
  simp only [Sem.run_bind,this,Result.andThen_ok,Sem.run_pure]
  simp
theorem Fe {t:TypeId} {ps:Array (Nat×Operand)} {qs:List (Nat×Nat×aV)} {zero:List V} {fs:Array Field} (ho:o.op=.build t ps) (hz:gP P t zero=true) (hu:P.underlying t=some (.struct fs))
 (vU:(fs.toList.all fun f=>(P.info? f.type).isSome)=true) (hp:o6 P fs ps.toList qs=true) (hs:bC E st w) (hf:aJ E N fr a)
 (hw:(step (.IW zero qs) fr st).wp (aB P) K) (hc:dJ E st w o a next K):o.wp P a w next Q:=by
 obtain ⟨i,z,hi,w9,gH,hr,hl,h1⟩:=fA hz
 simp only [step] at hw
 unfold T.opt at hw
 split at hw
 case h_2=>exact hw.elim
 rename_i vR Xn
 obtain ⟨l1,l2⟩:=pY (P:=P) hf hp
 obtain ⟨zs,uJ,wJ,Gd⟩:=xA (E:=E) (fun k=>(fs.map fun f=>(f.offset,P.cellsOf f.type))[k]?) [] (cE fr qs) (ps.toList.map fun q=>(q.1,a.eval q.2)) zero vR z.cells Xn (hr E) h1 (by simp [l1]) (fun j q x hq hx=>by
  rw [List.getElem?_map] at hx
  cases Jn:ps.toList[j]? with
  |none=>rw [Jn] at hx;cases hx
  |some p=>
   rw [Jn] at hx
   simp only [Option.map_some,Option.some.injEq] at hx
   subst hx
   obtain ⟨⟨f,Xm,E3,OG⟩,iY⟩:=l2 j q p hq Jn
   refine ⟨?_,iY⟩
   simp only [Array.getElem?_map,Xm,Option.map_some,Program.cellsOf,E3]
   cases ZG:P.info? f.type with
   |none=>simp [ZG] at OG
   |some i2=>
    simp [ZG] at OG
    simp [OG])
 have hm:(fs.mapM fun f=>do pure (f.offset,<-sizeOf f.type):Sem (Array (Nat×Nat))).run P w=.ok (fs.map fun f=>(f.offset,P.cellsOf f.type)) w:=by
  refine Jm fs fun f Xo=>?_
  have:=List.all_eq_true.1 vU f Xo
  obtain ⟨i2,RU⟩:=Option.isSome_iff_exists.1 this
  simp [sizeOf,typeInfo,RU,Program.cellsOf]
 refine aG (x:=.agg zs) ?_ (hc.same hs hw (.agg _ _ wJ.1 Gd wJ.2))
 have Bt:(ps.map fun (q:Nat×Operand)=>(q.1,a.eval q.2)).toList=ps.toList.map fun q=>(q.1,a.eval q.2):=by simp
 simp only [execOp,ho,Instr.build,Sem.run_bind,fR hi w9,run_underlying hu,Result.andThen_ok,hm]
 simp only [Bt,uJ,Sem.run_pure,Result.andThen_ok]
theorem Ff {t e:TypeId} {n sz:Nat} {ps:Array (Nat×Operand)} {qs:List (Nat×Nat×aV)} {zero:List V} (ho:o.op=.build t ps) (hz:gP P t zero=true) (hu:P.underlying t=some (.array n e))
 (Jo:(P.info? e).map (·.size)=some sz) (hp:lQ sz ps.toList qs=true) (hs:bC E st w) (hf:aJ E N fr a)
 (hw:(step (.IW zero qs) fr st).wp (aB P) K) (hc:dJ E st w o a next K):o.wp P a w next Q:=by
 obtain ⟨i,z,hi,w9,gH,hr,hl,h1⟩:=fA hz
 simp only [step] at hw
 unfold T.opt at hw
 split at hw
 case h_2=>exact hw.elim
 rename_i vR Xn
 obtain ⟨l1,l2⟩:=nD hf hp
 obtain ⟨zs,uJ,wJ,Gd⟩:=xA (E:=E) (fun k=>some (k*sz,sz)) [] (cE fr qs) (ps.toList.map fun q=>(q.1,a.eval q.2)) zero vR z.cells Xn (hr E) h1 (by simp [l1]) (fun j q x hq hx=>by
  rw [List.getElem?_map] at hx
  cases Jn:ps.toList[j]? with
  |none=>rw [Jn] at hx;cases hx
  |some p=>
   rw [Jn] at hx
   simp only [Option.map_some,Option.some.injEq] at hx
   subst hx
   obtain ⟨⟨E3,OG⟩,iY⟩:=l2 j q p hq Jn
   exact ⟨by simp [E3,OG],iY⟩)
 cases hq:P.info? e with
 |none=>simp [hq] at Jo
 |some i2=>
 have RU:i2.size=sz:=by simpa [hq] using Jo
 refine aG (x:=.agg zs) ?_ (hc.same hs hw (.agg _ _ wJ.1 Gd wJ.2))
 have Bt:(ps.map fun (q:Nat×Operand)=>(q.1,a.eval q.2)).toList=ps.toList.map fun q=>(q.1,a.eval q.2):=by simp
 simp only [execOp,ho,Instr.build,Sem.run_bind,fR hi w9,run_underlying hu,Result.andThen_ok]
 simp only [sizeOf,typeInfo,program,Bt]
 simp [uJ,Sem.run,hq,RU]
end
open Go
theorem rU {E:Env} {v d:V} {x:Value} (h:v.deep=some d) (hr:Rel E v x):cV E.I d x:=by
 unfold V.deep at h
 split at h<;>simp only [Option.some.injEq,reduceCtorEq] at h<;>subst h
 all_goals (cases hr)
 all_goals (first|assumption|skip)
 all_goals (rename_i hd;first|exact hd|(cases hd<;>first|exact .jF _|exact .EW _ _ ‹_›|exact .sl _ _ _ _ _ _ ‹_› ‹_› ‹_› ‹_›))
theorem rV:∀ {l r l' r':List V},hY l=some l'->hY r=some r'->hY (l++r)=some (l'++r')
 |[],r,l',r',h,g=>by simp only [hY,Option.some.injEq] at h;subst h;exact g
 |v::l,r,l',r',h,g=>by
  simp only [hY] at h
  split at h
  · rename_i x y hx hy
    simp only [Option.some.injEq] at h
    subst h
    simp only [List.cons_append,hY,hx,rV hy g]
  · cases h
theorem iI:∀ {l l':List V},hY l=some l'->l'.length=l.length/\∀ (j:Nat) (d:V),l'[j]? =some d->∃ v,l[j]? =some v/\v.deep=some d
 |[],l',h=>by simp only [hY,Option.some.injEq] at h;subst h;exact ⟨rfl,fun j d hd=>by simp at hd⟩
 |v::l,l',h=>by
  simp only [hY] at h
  split at h
  · rename_i x y hx hy
    simp only [Option.some.injEq] at h
    subst h
    obtain ⟨h1,h2⟩:=iI hy
    refine ⟨by simp [h1],fun j d hd=>?_⟩
    cases j with
    |zero=>simp at hd;subst hd;exact ⟨v,rfl,hx⟩
    |succ j=>exact h2 j d (by simpa using hd)
  · cases h
theorem fB:∀ {es ds:List (List V)},dD es=some ds->hY es.flatten=some ds.flatten/\ds.length=es.length/\∀ {sz:Nat},(∀ e∈es,e.length=sz)->∀ e∈ds,e.length=sz
 |[],ds,h=>by simp only [dD,Option.some.injEq] at h;subst h;exact ⟨rfl,rfl,fun _ e he=>by cases he⟩
 |e::es,ds,h=>by
  simp only [dD] at h
  split at h
  · rename_i x y hx hy
    simp only [Option.some.injEq] at h
    subst h
    obtain ⟨h1,h2,h3⟩:=fB hy
    refine ⟨rV hx h1,by simp [h2],fun hl d hd=>?_⟩
    cases hd with
    |head=>rw [(iI hx).1];exact hl e (.head _)
    |tail _ hd=>exact h3 (fun d hd=>hl d (.tail _ hd)) d hd
  · cases h
theorem pZ:∀ {l r l' r':List V},dI l=some l'->dI r=some r'->dI (l++r)=some (l'++r')
 |[],r,l',r',h,g=>by simp only [dI,Option.some.injEq] at h;subst h;exact g
 |v::l,r,l',r',h,g=>by
  simp only [dI] at h
  split at h
  · rename_i x y hx hy
    simp only [Option.some.injEq] at h
    subst h
    simp only [List.cons_append,dI,hx,pZ hy g]
  · cases h
theorem xB:∀ {l l':List V},dI l=some l'->l'.length=l.length
 |[],l',h=>by simp only [dI,Option.some.injEq] at h;subst h;rfl
 |v::l,l',h=>by
  simp only [dI] at h
  split at h
  · rename_i x y hx hy
    simp only [Option.some.injEq] at h
    subst h
    simp [xB hy]
  · cases h
theorem xC {g:Bool} {l l':List V} (h:lJ g l=some l'):l'.length=l.length:=by
 cases g with
 |true=>exact xB h
 |false=>simp only [lJ,Option.some.injEq] at h;rw [h]
theorem iP {g:Bool}:∀ {es ds:List (List V)},dF g es=some ds->lJ g es.flatten=some ds.flatten/\ds.length=es.length/\∀ {sz:Nat},(∀ e∈es,e.length=sz)->∀ e∈ds,e.length=sz
 |[],ds,h=>by simp only [dF,Option.some.injEq] at h;subst h;cases g<;>exact ⟨rfl,rfl,fun _ e he=>by cases he⟩
 |e::es,ds,h=>by
  simp only [dF] at h
  split at h
  · rename_i x y hx hy
    simp only [Option.some.injEq] at h
    subst h
    obtain ⟨h1,h2,h3⟩:=iP hy
    refine ⟨?_,by simp [h2],fun hl d hd=>?_⟩
    · cases g with
      |true=>exact pZ hx h1
      |false=>simp only [lJ,Option.some.injEq] at hx h1 ⊢;simp [hx,h1]
    · cases hd with
      |head=>rw [xC hx];exact hl e (.head _)
      |tail _ hd=>exact h3 (fun d hd=>hl d (.tail _ hd)) d hd
  · cases h
def fC (E:Env) (cs:List V) (xs:List Value):Prop:=∀ (j:Nat) (v:V),cs[j]? =some v->∃ x,xs[j]? =some x/\Rel E v x/\x.oneCell'=true
def iJ (I:rK) (cs:List V) (xs:List Value):Prop:=∀ (j:Nat) (v:V),cs[j]? =some v->∃ x,xs[j]? =some x/\cV I v x
theorem iJ.mono {I J:rK} (h:∀ b o x,I b o=some x->J b o=some x) {cs:List V} {xs:List Value} (hr:iJ I cs xs):iJ J cs xs:=
 fun j v hj=>let ⟨x,a,c⟩:=hr j v hj;⟨x,a,c.mono h⟩
section
variable {P:Program} {o:Oper} {a:Act} {E:Env} {N:Nat} {st:St} {w w':World} {fr:Fr} {next:Act->World->Prop} {Q:Exit->Act->World->Prop} {K:R->Prop}
theorem xD {z:Nat} (hs:bC E st w) (gone:Option Key) (g:Bool) {cells:Array Value} {t:TypeId} {fz:Nat×Nat} (EJ:mV z fz cells.size) (hh:w'.heap=w.heap.push (.cells cells t fz)) (ho:kO w w')
 {sz cap:Nat} {ds:List (List V)} (hl:∀ e∈ds,e.length=sz) (vV:cells.size=cap*sz) (hc:ds.length<=cap) (hr:iJ E.I ds.flatten cells.toList):
 ∃ E',bC E' ((match gone with|some k=>st.remove k|none=>st).push g .spare) w'/\Ext E st w E' ((match gone with|some k=>st.remove k|none=>st).push g .spare) w'/\
  Rel E' (.sl (some (st.aE g)) sz ds) (.slice (some ⟨w.heap.size,0,none⟩) ds.length cap):=by
 have w8:=bT hl
 have hle:ds.length*sz<=cells.size:=by rw [vV];exact Nat.mul_le_mul_right _ hc
 obtain ⟨E',s1,s2,s3,s4,s5⟩:=hs.RS gone g EJ hh ho (ds.length*sz) hle
 refine ⟨E',s1,s2,?_⟩
 have CN:=hr.mono s2.le.gJ
 refine .AE _ _ _ _ _ s3 (.sl sz ds w.heap.size 0 cap (fun j=>cells.toList.getD j default) hc hl (fun j d hj=>?_) (fun j d hj=>?_)) (by rw [s4];exact ⟨rfl,rfl⟩) (.inr ?_)
 · have cQ:j<ds.length*sz:=by rw [<-w8];exact (List.getElem?_eq_some_iff.1 hj).1
   rw [Nat.zero_add,s5 j cQ]
   have:j<cells.size:=by omega
   simp [this]
 · obtain ⟨x,hx,s6⟩:=CN j d hj
   simp only [List.getD_eq_getElem?_getD,hx]
   exact s6
 · rw [s4];simp [vV]
theorem Jp {z:Nat} (hs:bC E st w) {cells:Array Value} {t:TypeId} {fz:Nat×Nat} (EJ:mV z fz cells.size) (hh:w'.heap=w.heap.push (.cells cells t fz)) (ho:kO w w')
 {sz cap:Nat} {ds:List (List V)} (hl:∀ e∈ds,e.length=sz) (vV:cells.size=cap*sz) (hc:ds.length<=cap) (hr:iJ E.I ds.flatten cells.toList):
 ∃ E',bC E' st w'/\Ext E st w E' st w'/\Rel E' (.sl none sz ds) (.slice (some ⟨w.heap.size,0,none⟩) ds.length cap):=by
 obtain ⟨E',s1,s2,s3⟩:=xD hs none false EJ hh ho hl vV hc hr
 dsimp only at s1 s2
 have hlp:∀ k,st.live k->(st.push false .spare).live k:=by
  rintro k ⟨o,hk⟩
  refine ⟨o,?_⟩
  rw [St.gL,if_neg,hk]
  intro e
  have:=hs.g9 k ⟨o,hk⟩
  rw [e,hs.aE] at this
  exact Env.gM E false this
 have hle:E.Le { E' with nl:=E.nl }:=⟨s2.le.gJ,s2.le.ng,Nat.le_refl _,s2.le.loc⟩
 have kL:∀ k,st.live k->w'.heap[(E.μ k).aW]? =w.heap[(E.μ k).aW]? :=fun k hk=>by
  rw [hh,Array.getElem?_push,if_neg (Nat.ne_of_lt (hs.lt hk))]
 refine ⟨{ E' with nl:=E.nl },⟨?_,hs.nl,fun k hk=>hle.has (hs.g9 k hk),s1.gJ,fun k o hk=>?_,fun k k' hk jG cO=>?_,fun k hk=>s1.own k (hlp k hk)⟩,
  ⟨hle,s2.size,s2.eJ,fun k hk _=>hk,fun k hk hn=>absurd (hs.g9 k hk) hn,s2.same,s2.os,s2.out,s2.tape⟩,?_⟩
 · have:=s1.ng
   simpa [St.push] using this
 · have:=(hs.obj k o hk).lM (Env.gK hle k) (kL k ⟨o,hk⟩)
   rw [show ({ E' with nl:=E.nl }:Env).μ k=E.μ k from hle.loc k (hs.g9 k ⟨o,hk⟩)]
   exact this
 · rw [hle.loc k (hs.g9 k hk),hle.loc k' (hs.g9 k' jG)]
   exact hs.sep k k' hk jG cO
 · cases s3 with
   |deep hd=>cases hd
   |AE _ _ _ _ _ hk hd=>exact .deep hd
theorem C1 {sz:Nat} (hs:bC E st w) (gone:Option Key) (g:Bool) {cells:Array Value} {t:TypeId} {fz:Nat×Nat} (EJ:mV sz fz cells.size) (hh:w'.heap=w.heap.push (.cells cells t fz)) (ho:kO w w')
 {cap:Nat} {ds:List (List V)} (hl:∀ e∈ds,e.length=sz) (vV:cells.size=cap*sz) (hc:ds.length<=cap) (hr:fC (E.CM g) ds.flatten cells.toList):
 ∃ E',bC E' ((match gone with|some k=>st.remove k|none=>st).push g (.arr sz ds)) w'/\Ext E st w E' ((match gone with|some k=>st.remove k|none=>st).push g (.arr sz ds)) w'/\
  Rel E' (.ms (st.aE g) sz 0 ds.length) (.slice (some ⟨w.heap.size,0,none⟩) ds.length cap):=by
 have w8:=bT hl
 have hle:ds.length*sz<=cells.size:=by rw [vV];exact Nat.mul_le_mul_right _ hc
 obtain ⟨E',s1,s2,s3,s4⟩:=hs.newRow gone g EJ hh ho (.arr sz ds) ds.flatten (fun F L _ h=>⟨hl,h⟩) (by omega) (fun j v hj=>let ⟨x,hx,h⟩:=hr j v hj;⟨x,by simpa using hx,h⟩)
 refine ⟨E',s1,s2,.ms _ _ _ _ _ _ s3 hc ?_ (by rw [s4]) (.inr ?_)⟩
 · rw [s4];simp [vV]
 · rw [s4];simp
theorem newSlice_ok {m:gI} {sz:Nat} {es:List (List V)} {A:aX} (hw:(jU m sz es st).wp A K) (hs:bC E st w) {cells:Array Value} {t:TypeId} {fz:Nat×Nat} (EJ:mV sz fz cells.size)
 (hh:w'.heap=w.heap.push (.cells cells t fz)) (ho:kO w w') {cap:Nat} (hl:∀ e∈es,e.length=sz) (vV:cells.size=cap*sz) (hc:es.length<=cap) (hr:fC E es.flatten cells.toList):
 ∃ v aR E',K (v,aR)/\bC E' aR w'/\Ext E st w E' aR w'/\Rel E' v (.slice (some ⟨w.heap.size,0,none⟩) es.length cap):=by
 cases m with
 |im g=>
  obtain ⟨ds,hd,hk⟩:=hw
  obtain ⟨h1,h2,h3⟩:=fB hd
  have EK:iJ E.I ds.flatten cells.toList:=by
   intro j d hj
   obtain ⟨v,hv,RW⟩:=(iI h1).2 j d hj
   obtain ⟨x,hx,s6,_⟩:=hr j v hv
   exact ⟨x,hx,rU RW s6⟩
  obtain ⟨E',s1,s2,s3⟩:=xD hs none g EJ hh ho (h3 hl) vV (by omega) EK
  exact ⟨_,_,E',hk,s1,s2,by rw [h2] at s3;exact s3⟩
 |fz=>
  obtain ⟨ds,hd,hk⟩:=hw
  obtain ⟨h1,h2,h3⟩:=fB hd
  have EK:iJ E.I ds.flatten cells.toList:=by
   intro j d hj
   obtain ⟨v,hv,RW⟩:=(iI h1).2 j d hj
   obtain ⟨x,hx,s6,_⟩:=hr j v hv
   exact ⟨x,hx,rU RW s6⟩
  obtain ⟨E',s1,s2,s3⟩:=Jp hs EJ hh ho (h3 hl) vV (by omega) EK
  exact ⟨_,_,E',hk,s1,s2,by rw [h2] at s3;exact s3⟩
 |mu g=>
  obtain ⟨ds,hd,hk⟩:=hw
  obtain ⟨h1,h2,h3⟩:=iP hd
  have EK:fC (E.CM g) ds.flatten cells.toList:=by
   intro j d hj
   have hlen:=xC h1
   have cQ:j<es.flatten.length:=by rw [<-hlen];exact (List.getElem?_eq_some_iff.1 hj).1
   obtain ⟨x,hx,s6,h1x⟩:=hr j _ (List.getElem?_eq_getElem cQ)
   have Xp:cP E es.flatten (cells.extract 0 es.flatten.length):=by
    have gH:es.flatten.length<=cells.size:=by rw [bT hl,vV];exact Nat.mul_le_mul_right _ hc
    refine ⟨by rw [Array.size_extract];omega,fun j v y hj hy=>?_⟩
    obtain ⟨z,hz,OH,_⟩:=hr j v hj
    rw [Array.getElem?_extract] at hy
    split at hy
    · rw [Nat.zero_add] at hy
      rw [Array.getElem?_toList,hy] at hz
      cases hz;exact OH
    · cases hy
   have:=nA h1 Xp
   refine ⟨x,hx,this.2 j d x hj ?_,h1x⟩
   have Oh:j<cells.size:=by
    have:=(List.getElem?_eq_some_iff.1 hx).1
    simpa using this
   rw [Array.getElem?_extract,if_pos (by omega),Nat.zero_add]
   simpa using hx
  obtain ⟨E',s1,s2,s3⟩:=C1 hs none g EJ hh ho (h3 hl) vV (by omega) EK
  exact ⟨_,_,E',hk,s1,s2,by rw [h2] at s3 ⊢;exact s3⟩
end
open Go
structure Ge (P:Program) (E:Env) (w:World) (sz:Nat) (x:Value) (es:List (List V)) (xs:List Value):Prop where
 Fg:∀ e∈es,e.length=sz
 xF:xs.length=es.length*sz
 len:∀ w0:World,(Builtin.lenOf x).run P w0=.ok es.length w0
 first:∀ w0:World,w0.heap=w.heap->∀ n,n<=es.length->(Builtin.firstCells sz n x).run P w0=.ok (xs.take (n*sz)).toArray w0
 rel:fC E es.flatten xs
 one:∀ y∈xs,y.oneCell'=true
section
variable {P:Program} {E:Env} {st:St} {w:World} {K:R->Prop}
theorem jY:∀ l:List UInt8,(cT l).flatten=l.map fun c=>V.i .u8 c.toNat
 |[]=>rfl
 |c::r=>by
  have:=jY r
  simp only [cT,List.map_cons,List.flatten_cons,List.singleton_append] at*
  rw [this]
theorem uK {sz:Nat} {es:List (List V)} {b off cap:Nat} (hl:∀ e∈es,e.length=sz) (hc:dV E w b off es.flatten) (len:Nat) (hlen:len=es.length):
 ∃ xs,Ge P E w sz (.slice (some ⟨b,off,none⟩) len cap) es xs:=by
 subst hlen
 obtain ⟨xs,h1,h2,h3,h4⟩:=hc.list
 have w8:=bT hl
 refine ⟨xs,hl,by omega,fun w0=>by simp [Builtin.lenOf],fun w0 hw n hn=>?_,fun j v hj=>?_,h4⟩
 · refine run_firstCells_some (P:=P) w0 sz n ⟨b,off,none⟩ es.length cap (xs.take (n*sz)) ?_ fun j v hj=>?_
   · rw [List.length_take]
     have:n*sz<=es.length*sz:=Nat.mul_le_mul_right _ hn
     omega
   · rw [List.getElem?_take] at hj
     split at hj
     · rw [Addr.add_mid]
       have:=h2 j v hj
       rw [jV] at this ⊢
       simpa [aT,hw] using this
     · cases hj
 · obtain ⟨x,hx,hr⟩:=h3.get hj
   have WD:xs[j]? =some x:=by simpa using hx
   exact ⟨x,WD,hr,h4 x (List.mem_of_getElem? WD)⟩
theorem l8 {sz:Nat} {x:Value} (hl:∀ w0:World,(Builtin.lenOf x).run P w0=.ok 0 w0) (hf:∀ w0:World,(Builtin.firstCells sz 0 x).run P w0=.ok #[] w0):Ge P E w sz x [] [] where
 Fg e he:=by cases he
 xF:=by simp
 len:=hl
 first w0 _ n hn:=by
  obtain rfl:n=0:=by simpa using hn
  simpa using hf w0
 rel j v hj:=by simp at hj
 one y hy:=by cases hy
theorem elems_ok {sz:Nat} {v:V} {x:Value} {A:aX} {k:List (List V)->T R} (hs:bC E st w) (hr:Rel E v x) (hw:(eD sz st v k).wp A K):
 ∃ es xs,(k es).wp A K/\Ge P E w sz x es xs:=by
 unfold eD at hw
 split at hw
 · cases hr with
   |deep hd=>
    cases hd
    exact ⟨[],[],hw,l8 (fun w0=>by simp [Builtin.lenOf]) (fun w0=>by simp [Builtin.firstCells])⟩
 · rename_i tok cS es
   split at hw
   case isFalse=>exact hw.elim
   rename_i hz
   subst hz
   have fin:∀ {x:Value},cV E.I (.sl none cS es) x->∃ xs,Ge P E w cS x es xs:=by
    intro x hd
    cases hd with
    |jF=>exact ⟨[],l8 (fun w0=>by simp [Builtin.lenOf]) (fun w0=>by simp [Builtin.firstCells])⟩
    |EW _ a hs=>exact ⟨[],l8 (fun w0=>by simp [Builtin.lenOf]) (fun w0=>by simp [Builtin.firstCells,loadCells,loadCellsFrom])⟩
    |sl _ _ aW off cap val hc hl hv hr=>exact uK hl (hs.Ji hv hr) _ rfl
   cases hr with
   |deep hd=>
    cases hd with
    |jF=>obtain ⟨xs,h⟩:=fin (.jF (I:=E.I) cS);exact ⟨_,xs,hw,h⟩
    |EW _ a hs=>obtain ⟨xs,h⟩:=fin (.EW (I:=E.I) cS a hs);exact ⟨_,xs,hw,h⟩
    |sl _ _ aW off cap val hc hl hv hr=>obtain ⟨xs,h⟩:=fin (.sl cS es aW off cap val hc hl hv hr);exact ⟨_,xs,hw,h⟩
   |AE k _ _ a cap hk hd _ _=>obtain ⟨xs,h⟩:=fin hd;exact ⟨_,xs,hw,h⟩
 · rename_i key cS s n
   split at hw
   case isFalse=>exact hw.elim
   rename_i hz
   subst hz
   obtain ⟨ob,dC,hw⟩:=hw
   dsimp only at hw
   split at hw
   case h_2=>exact hw.elim
   rename_i dB es
   split at hw
   case isFalse=>exact hw.elim
   rename_i hz
   subst hz
   obtain ⟨kN,hw⟩:=hw
   have kN:s+n<=es.length:=by simpa using kN
   have hlen:((es.drop s).take n).length=n:=by simp;omega
   cases hr with
   |deep hd=>cases hd
   |ms _ _ _ _ a cap hk hc hf hb ha=>
    have Hm:=hs.obj key _ dC
    rcases ha with h0|ha
    · have hn:n=0:=by omega
      subst hn
      have:(es.drop s).take 0=[]:=by simp
      rw [this] at hw
      exact ⟨[],[],hw,l8 (fun w0=>by simp [Builtin.lenOf]) (fun w0=>by simp [Builtin.firstCells,loadCells,loadCellsFrom])⟩
    · subst ha
      have hl:∀ e∈(es.drop s).take n,e.length=dB:=fun e he=>Hm.1 e (List.mem_of_mem_drop (List.mem_of_mem_take he))
      have qF:∀ e∈es.drop s,e.length=dB:=fun e he=>Hm.1 e (List.mem_of_mem_drop he)
      have jH:=(Hm.2.l6.mono (E.rL key)).sub (s*dB) (n*dB)
      rw [<-iH Hm.1,<-iG qF] at jH
      obtain ⟨xs,hx⟩:=uK (P:=P) (cap:=cap) hl jH n hlen.symm
      exact ⟨_,xs,hw,hx⟩
 · rename_i l
   split at hw
   case isFalse=>exact hw.elim
   rename_i hz
   subst hz
   have hx:=hr.vJ
   subst hx
   have gH:(str l).size=l.length:=by simp [str,ByteArray.size]
   refine ⟨cT l,l.map fun c=>.int .u8 c.toNat,hw,?_,by simp [cT],fun w0=>by simp [Builtin.lenOf,cT,gH],?_,?_,?_⟩
   · intro e he
     simp only [cT,List.mem_map] at he
     obtain ⟨c,_,rfl⟩:=he
     rfl
   · intro w0 _ n hn
     simp only [cT,List.length_map] at hn
     simp only [Builtin.firstCells,Sem.run_pure,Nat.mul_one]
     congr 1
     apply Array.ext'
     simp [str,ByteArray.data_extract,List.map_take]
   · intro j v hj
     rw [jY,List.getElem?_map] at hj
     cases hc:l[j]? with
     |none=>rw [hc] at hj;cases hj
     |some c=>
      rw [hc] at hj
      simp only [Option.map_some,Option.some.injEq] at hj
      subst hj
      exact ⟨.int .u8 c.toNat,by simp [hc],.deep (.i _ _),rfl⟩
   · intro y hy
     simp only [List.mem_map] at hy
     obtain ⟨c,_,rfl⟩:=hy
     rfl
 · exact hw.elim
def kZ (P:Program) (t:Option TypeId):Bool:=
 match t with
 |some u=>match P.underlying u with
  |some (.int _)=>false
  |some _=>true
  |none=>false
 |none=>true
theorem tA {u:TypeId} {d:TypeDesc} (hq:P.underlying u=some d) (hz:kZ P (some u)=true):∀ k,d≠.int k:=by
 intro k hk
 subst hk
 simp [kZ,hq] at hz
theorem dE {α β:Type} {X:Result α} {F:α->World->Result β} {x:α} {w':World} {Y:Result β} (hX:X=.ok x w') (h:F x w'=Y):X.andThen F=Y:=by rw [hX];exact h
theorem k7 {ts:Array TypeId} {t ty el:TypeId} {i:TypeInfo} {x:Value} {n:Nat} {xs:List Value} (ht:ts[0]? =some t) (hu:P.underlying t=some (.slice el)) (hi:P.info? el=some i) (hz:kZ P ts[1]? =true)
 (hlen:(Builtin.lenOf x).run P w=.ok n w) (vW:(Builtin.firstCells i.size n x).run P w=.ok xs.toArray w) (b off iZ pR:Nat) (lR:iZ+n<=pR) (QR:w.there b (off+iZ*i.size) xs.length) (h1:∀ y∈xs,y.oneCell'=true):
 (Builtin.append_ ts ty #[.slice (some ⟨b,off,none⟩) iZ pR,x]).run P w=.ok (.slice (some ⟨b,off,none⟩) (iZ+n) pR) (w.setCells b (off+iZ*i.size) xs):=by
 have wK:=run_storeCells_cells (P:=P) b (off+iZ*i.size) xs 0 w (fun j hj=>by simpa using (QR j hj).1) (fun j hj=>by simpa using (QR j hj).2) h1
 simp only [Nat.add_zero] at wK
 unfold Builtin.append_
 simp only [ht,List.getElem?_toArray,List.getElem?_cons_zero,List.getElem?_cons_succ,Sem.run_bind,run_underlying hu,Result.andThen_ok]
 refine dE (x:=i.size) (w':=w) (by simp [sizeOf,typeInfo,hi]) ?_
 cases h:ts[1]? with
 |none=>
  simp [hlen,lR,vW,Addr.add_mid,wK]
 |some u=>
  rw [h] at hz
  cases hq:P.underlying u with
  |none=>simp [kZ,hq] at hz
  |some d=>
   have cO:=tA hq hz
   simp only [Sem.run_bind,run_underlying hq,Result.andThen_ok]
   refine dE (x:=false) (w':=w) (by cases d<;>first|exact absurd rfl (cO _)|simp) ?_
   simp [hlen,lR,vW,Addr.add_mid,wK]
theorem jA {ts:Array TypeId} {t ty el:TypeId} {i:TypeInfo} {x:Value} (ht:ts[0]? =some t) (hu:P.underlying t=some (.slice el)) (hi:P.info? el=some i) (hz:kZ P ts[1]? =true)
 (hlen:(Builtin.lenOf x).run P w=.ok 0 w) (vW:(Builtin.firstCells i.size 0 x).run P w=.ok #[] w) (b:Option Addr) (iZ pR:Nat) (lR:iZ<=pR):
 (Builtin.append_ ts ty #[.slice b iZ pR,x]).run P w=.ok (.slice b iZ pR) w:=by
 unfold Builtin.append_
 simp only [ht,List.getElem?_toArray,List.getElem?_cons_zero,List.getElem?_cons_succ,Sem.run_bind,run_underlying hu,Result.andThen_ok]
 refine dE (x:=i.size) (w':=w) (by simp [sizeOf,typeInfo,hi]) ?_
 cases h:ts[1]? with
 |none=>
  cases b<;>simp [hlen,lR,vW,storeCells]
 |some u=>
  rw [h] at hz
  cases hq:P.underlying u with
  |none=>simp [kZ,hq] at hz
  |some d=>
   have cO:=tA hq hz
   simp only [Sem.run_bind,run_underlying hq,Result.andThen_ok]
   refine dE (x:=false) (w':=w) (by cases d<;>first|exact absurd rfl (cO _)|simp) ?_
   cases b<;>simp [hlen,lR,vW,storeCells]
theorem jZ {ts:Array TypeId} {t ty el:TypeId} {i:TypeInfo} {z:Value} {x:Value} {n:Nat} {xs ys:List Value} (ht:ts[0]? =some t) (hu:P.underlying t=some (.slice el)) (hi:P.info? el=some i) (w9:i.zero=some z) (hz:kZ P ts[1]? =true)
 (hlen:(Builtin.lenOf x).run P w=.ok n w) (vW:(Builtin.firstCells i.size n x).run P w.drew=.ok xs.toArray w.drew) (b:Option Addr) (iZ pR:Nat)
 (hold:(Builtin.firstCells i.size iZ (.slice b iZ pR)).run P w.drew=.ok ys.toArray w.drew) (hg:pR<iZ+n) (hb:(iZ+n)*i.bytes<=140737488355328) (h63:iZ+n<=9223372036854775807):
 (Builtin.append_ ts ty #[.slice b iZ pR,x]).run P w=.ok (.slice (some ⟨w.heap.size,0,none⟩) (iZ+n) (grownCap w (iZ+n) pR el))
   (w.drew.alloc (.cells (ys.toArray++xs.toArray++Builtin.zeroCells z.cells (grownCap w (iZ+n) pR el - (iZ+n))) el)):=by
 have hn:¬(iZ+n<=pR):=by omega
 have Uy:¬(9223372036854775807<((iZ:Int)+(n:Int))):=by omega
 have vO:=growslice_fits (need:=iZ+n) (old:=pR) (bytes:=i.bytes) hg hb
 have Uz:¬(281474976710656<Builtin.nextslicecap (iZ+n) pR*i.bytes):=by omega
 unfold Builtin.append_
 simp only [ht,List.getElem?_toArray,List.getElem?_cons_zero,List.getElem?_cons_succ,Sem.run_bind,run_underlying hu,Result.andThen_ok]
 refine dE (x:=i.size) (w':=w) (by simp [sizeOf,typeInfo,hi]) ?_
 cases h:ts[1]? with
 |none=>
  simp [typeInfo,zeroValue,hi,w9,hlen,hn,Uy,Uz,Question.forced,vW,hold,newRow,grownCap]
  congr 2
  apply Array.ext'
  simp [List.append_assoc]
 |some u=>
  rw [h] at hz
  cases hq:P.underlying u with
  |none=>simp [kZ,hq] at hz
  |some d=>
   have cO:=tA hq hz
   simp only [Sem.run_bind,run_underlying hq,Result.andThen_ok]
   refine dE (x:=false) (w':=w) (by cases d<;>first|exact absurd rfl (cO _)|simp) ?_
   simp [typeInfo,zeroValue,hi,w9,hlen,hn,Uy,Uz,Question.forced,vW,hold,newRow,grownCap]
   congr 2
   apply Array.ext'
   simp [List.append_assoc]
end
open Go
def zT (P:Program) (el:TypeId) (sz bytes:Nat):Bool:=
 match P.info? el with
 |some i=>decide (i.size=sz)&&decide (i.bytes=bytes)&&decide (0<sz)&&decide (0<bytes)&&(match i.zero with
  |some z=>decide (z.cells.size=sz)
  |none=>false)
 |none=>false
theorem o7 {P:Program} {el:TypeId} {sz bytes:Nat} (h:zT P el sz bytes=true):
 ∃ i z,P.info? el=some i/\i.zero=some z/\i.size=sz/\i.bytes=bytes/\0<sz/\0<bytes/\z.cells.size=sz:=by
 unfold zT at h
 split at h
 · rename_i i hi
   simp only [Bool.and_eq_true,decide_eq_true_eq] at h
   obtain ⟨⟨⟨⟨h1,h2⟩,h3⟩,h4⟩,h5⟩:=h
   split at h5
   · rename_i z hz
     exact ⟨i,z,hi,hz,h1,h2,h3,h4,by simpa using h5⟩
   · cases h5
 · cases h
theorem rW {E:Env} {aeN bs:List V} {ys xs:List Value} (ha:fC E aeN ys) (hl:ys.length=aeN.length) (hb:fC E bs xs) (rest:List Value):fC E (aeN++bs) (ys++xs++rest):=by
 intro j v hj
 rw [List.getElem?_append] at hj
 split at hj
 · rename_i cQ
   obtain ⟨x,hx,h⟩:=ha j v hj
   refine ⟨x,?_,h⟩
   rw [List.append_assoc,List.getElem?_append_left (by omega)]
   exact hx
 · rename_i cQ
   obtain ⟨x,hx,h⟩:=hb _ v hj
   have Ja:=(List.getElem?_eq_some_iff.1 hx).1
   refine ⟨x,?_,h⟩
   rw [List.getElem?_append_left (by rw [List.length_append];omega),List.getElem?_append_right (by omega),hl]
   exact hx
theorem zU {I:rK} {aeN bs:List V} {ys xs:List Value} (ha:iJ I aeN ys) (hl:ys.length=aeN.length) (hb:iJ I bs xs) (rest:List Value):iJ I (aeN++bs) (ys++xs++rest):=by
 intro j v hj
 rw [List.getElem?_append] at hj
 split at hj
 · rename_i cQ
   obtain ⟨x,hx,h⟩:=ha j v hj
   refine ⟨x,?_,h⟩
   rw [List.append_assoc,List.getElem?_append_left (by omega)]
   exact hx
 · rename_i cQ
   obtain ⟨x,hx,h⟩:=hb _ v hj
   have Ja:=(List.getElem?_eq_some_iff.1 hx).1
   refine ⟨x,?_,h⟩
   rw [List.getElem?_append_left (by rw [List.length_append];omega),List.getElem?_append_right (by omega),hl]
   exact hx
theorem fC.deep {E:Env} {cs ds:List V} {xs:List Value} (h:hY cs=some ds) (hr:fC E cs xs):iJ E.I ds xs:=by
 intro j d hj
 obtain ⟨v,hv,RW⟩:=(iI h).2 j d hj
 obtain ⟨x,hx,s6,_⟩:=hr j v hv
 exact ⟨x,hx,rU RW s6⟩
theorem fC.own {E:Env} {g:Bool} {cs ds:List V} {xs:List Value} (h:lJ g cs=some ds) (hl:xs.length=cs.length) (hr:fC E cs xs):fC (E.CM g) ds xs:=by
 have Xp:cP E cs xs.toArray:=⟨by simpa using hl,fun j v y hj hy=>by
  obtain ⟨z,hz,OH,_⟩:=hr j v hj
  have:xs[j]? =some y:=by simpa using hy
  rw [this] at hz;cases hz;exact OH⟩
 have h2:=nA h Xp
 intro j d hj
 have cQ:j<cs.length:=by rw [<-xC h];exact (List.getElem?_eq_some_iff.1 hj).1
 obtain ⟨x,hx,_,h1⟩:=hr j _ (List.getElem?_eq_getElem cQ)
 exact ⟨x,hx,h2.2 j d x hj (by simpa using hx),h1⟩
theorem fC.UA {E:Env} {cs:List V} {xs:List Value} (hl:xs.length=cs.length) (hr:fC E cs xs):cP E cs xs.toArray:=⟨by simpa using hl,fun j v y hj hy=>by
 obtain ⟨z,hz,OH,_⟩:=hr j v hj
 have:xs[j]? =some y:=by simpa using hy
 rw [this] at hz;cases hz;exact OH⟩
section
variable {P:Program} {o:Oper} {a:Act} {E:Env} {N:Nat} {st:St} {w:World} {fr:Fr} {next:Act->World->Prop} {Q:Exit->Act->World->Prop} {K:R->Prop}
theorem dW {s x:Operand} {ts:Array TypeId} {v:Value} {w':World} (ho:o.op=.call { callee:=.builtin .append,args:=#[s,x],argTypes:=ts })
 (h:(Builtin.append_ ts o.type #[a.eval s,a.eval x]).run P w=.ok v w'):(execOp a.eval o).run P w=.ok (.value v) w':=by
 simp [execOp,ho,resolve,invoke,builtin,h,Result.andThen]
theorem rX {n bytes:Nat} (h:eW n bytes=true) (hb:0<bytes):n*bytes<=140737488355328/\n<=9223372036854775807:=by
 have h1:n*bytes<=140737488355328:=by first|(simp [eW];done)|simpa [eW] using h
 have h2:n*1<=n*bytes:=Nat.mul_le_mul_left _ hb
 exact ⟨h1,by omega⟩
theorem nE {ys xs:List Value} {z:Array Value} {n:Nat}:(ys.toArray++xs.toArray++Builtin.zeroCells z n).toList=ys++xs++(Builtin.zeroCells z n).toList:=by simp
theorem qG {ys xs:List Value} {z:Array Value} {n sz p q cap:Nat} (h1:ys.length=p*sz) (h2:xs.length=q*sz) (hz:z.size=sz) (hn:n=cap - (p+q)) (hc:p+q<=cap):
 (ys.toArray++xs.toArray++Builtin.zeroCells z n).size=cap*sz:=by
 have hs:ys.toArray.size+xs.toArray.size=(p+q)*sz:=by rw [List.size_toArray,List.size_toArray,h1,h2,Nat.add_mul]
 rw [Array.size_append,Array.size_append,size_zeroCells,hz,hs,hn,<-Nat.add_mul]
 congr 1;omega
theorem iL (w:World) (ob:Go.Obj):(w.drew.alloc ob).heap=w.heap.push ob:=rfl
theorem tB (w:World) (ob:Go.Obj):kO w (w.drew.alloc ob):=⟨rfl,rfl,rfl⟩
theorem Gf {sz:Nat} {es ds:List (List V)} (hl:∀ e∈es,e.length=sz) (hd:∀ e∈ds,e.length=sz) {p:Nat} (kN:p+ds.length<=es.length):
 (es.take p++ds++es.drop (p+ds.length)).flatten=b8 es.flatten (p*sz) ds.flatten:=by
 have Jq:=bT hl
 have Jr:=bT hd
 have hmul:(p+ds.length)*sz<=es.length*sz:=Nat.mul_le_mul_right _ kN
 rw [Nat.add_mul] at hmul
 rw [List.flatten_append,List.flatten_append,iG hl,iH hl,Nat.add_mul]
 apply List.ext_getElem?
 intro j
 rw [e8 _ _ _ _ (by omega)]
 have cQ:(es.flatten.take (p*sz)).length=p*sz:=by rw [List.length_take];omega
 by_cases h1:j<p*sz
 · rw [List.getElem?_append_left (by rw [List.length_append,cQ];omega),List.getElem?_append_left (by omega),if_neg (by omega),List.getElem?_take,if_pos h1]
 · by_cases h2:j<p*sz+ds.flatten.length
   · rw [if_pos (by omega),List.getElem?_append_left (by rw [List.length_append,cQ];omega),List.getElem?_append_right (by omega),cQ]
   · rw [if_neg (by omega),List.getElem?_append_right (by rw [List.length_append,cQ];omega),List.length_append,cQ,List.getElem?_drop]
     congr 1;omega
theorem step_append {s x:Operand} {d e:aV} {ts:Array TypeId} {t el:TypeId} {m:gI} {sz bytes:Nat} (ho:o.op=.call { callee:=.builtin .append,args:=#[s,x],argTypes:=ts })
 (ht:ts[0]? =some t) (hu:P.underlying t=some (.slice el)) (Br:zT P el sz bytes=true) (hz:kZ P ts[1]? =true) (hx:b9 s d=true) (hy:b9 x e=true)
 (hs:bC E st w) (hf:aJ E N fr a) (hw:(step (.append m sz bytes d e) fr st).wp (aB P) K) (hc:dJ E st w o a next K):o.wp P a w next Q:=by
 obtain ⟨i,z,hi,w9,gH,UB,C2,Fh,OI⟩:=o7 Br
 subst gH
 subst UB
 have Gg:=aH hx hf
 have hr2:=aH hy hf
 simp only [step] at hw
 obtain ⟨new,xs,hw,lI⟩:=elems_ok (P:=P) hs hr2 hw
 have w8:=bT lI.Fg
 have vW:(Builtin.firstCells i.size new.length (a.eval x)).run P w=.ok xs.toArray w:=by
  have:=lI.first w rfl new.length (Nat.le_refl _)
  rwa [<-lI.xF,List.take_length] at this
 have RX:(Builtin.firstCells i.size new.length (a.eval x)).run P w.drew=.ok xs.toArray w.drew:=by
  have:=lI.first w.drew rfl new.length (Nat.le_refl _)
  rwa [<-lI.xF,List.take_length] at this
 have RY:(Builtin.firstCells i.size 0 (a.eval x)).run P w=.ok #[] w:=by
  have:=lI.first w rfl 0 (Nat.zero_le _)
  simpa using this
 have hlen:=lI.len w
 unfold fN at hw
 split at hw
 · -- nil
   rename_i e1
   rw [e1] at Gg
   have IL:a.eval s=.slice none 0 0:=by
    generalize a.eval s=y at Gg
    cases Gg with
    |deep hd=>cases hd;rfl
   split at hw
   · refine aG (x:=.slice none 0 0) (dW ho ?_) (hc.same hs hw (.deep .bU))
     rw [IL]
     exact jA ht hu hi hz hlen RY none 0 0 (Nat.le_refl _)
   · rename_i e0 r0
     obtain ⟨lR,hw⟩:=hw
     obtain ⟨IJ,Oe⟩:=rX lR Fh
     have cJ:=jZ (ty:=o.type) (ys:=[]) ht hu hi w9 hz hlen RX none 0 0 (by simp [Builtin.firstCells]) (by simp) (by simpa using IJ) (by simpa using Oe)
     rw [Nat.zero_add] at cJ
     have Gh:=grownCap_ge w (e0::r0).length 0 el
     have mR:=qG (ys:=[]) (xs:=xs) (z:=z.cells) (n:=grownCap w (e0::r0).length 0 el - (e0::r0).length) (p:=0) (q:=(e0::r0).length) (cap:=grownCap w (e0::r0).length 0 el) (by simp) lI.xF OI (by simp) (by simpa using Gh)
     obtain ⟨v,aR,E',hk,s1,s2,iY⟩:=newSlice_ok (w':=w.drew.alloc _) hw hs (fz:=(0,0)) (.inl rfl) (iL w _) (tB w _) lI.Fg mR Gh
      (by rw [nE];exact rW (aeN:=[]) (fun j v hj=>by simp at hj) rfl lI.rel _)
     refine aG (dW ho (by rw [IL];exact cJ)) (hc _ _ E' _ _ hk s1 s2 iY)
 · -- T5 elements
   rename_i tok cS es e1
   rw [e1] at Gg
   split at hw
   case isFalse=>exact hw.elim
   rename_i UC
   subst UC
   split at hw
   · generalize IL:a.eval s=y at Gg
     have:∃ b n c,y=.slice b n c/\n<=c:=by
      cases Gg with
      |deep hd=>
       cases hd with
       |jF=>exact ⟨_,_,_,rfl,Nat.le_refl _⟩
       |EW=>exact ⟨_,_,_,rfl,Nat.le_refl _⟩
       |sl _ _ _ _ _ _ RZ=>exact ⟨_,_,_,rfl,RZ⟩
      |AE _ _ _ _ _ _ hd zV _=>
       cases hd with
       |EW _ _ hs=>exact absurd zV.2 hs
       |sl _ _ _ _ _ _ RZ=>exact ⟨_,_,_,rfl,RZ⟩
     obtain ⟨b,n,c,rfl,Xq⟩:=this
     refine aG (x:=.slice b n c) (dW ho ?_) (hc.same hs hw Gg)
     rw [IL]
     exact jA ht hu hi hz hlen RY b n c Xq
   · rename_i e0 r0
     obtain ⟨lR,ds,fX,hw⟩:=hw
     obtain ⟨IJ,Oe⟩:=rX lR Fh
     split at hw
     case h_2=>exact hw.elim
     rename_i k
     obtain ⟨ob,dC,hw⟩:=hw
     dsimp only at hw
     split at hw
     case h_2=>exact hw.elim
     obtain ⟨zW,C3,EL⟩:=fB fX
     have EL:=EL lI.Fg
     have EK:iJ E.I ds.flatten xs:=lI.rel.deep zW
     have hn:(e0::r0).length=ds.length:=C3.symm
     generalize IL:a.eval s=y at Gg
     cases Gg with
     |deep hd=>cases hd
     |AE _ _ _ ad cap hk hd UD hh=>
     have zV:=UD.1
     cases hd with
     |EW _ _ hs=>exact absurd UD.2 hs
     |sl _ _ aW off _ val Hn hl hv hr=>
     have Jq:=bT hl
     have Jr:=bT EL
     by_cases hg:es.length+ds.length<=cap
     · -- there is room
       have xG:0<ds.length:=by rw [<-hn];simp
       have hh:off+es.length*i.size=(E.μ k).base/\off+cap*i.size=(E.μ k).fin:=by
        rcases hh with h|h
        · omega
        · exact h
       obtain ⟨R2,hh3⟩:=hh
       have Js:aW=(E.μ k).aW:=zV
       obtain ⟨cells,ty,fz,r1,r2,r3,r4,r5⟩:=hs.obj k _ dC
       have hmul:(es.length+ds.length)*i.size<=cap*i.size:=Nat.mul_le_mul_right _ hg
       rw [Nat.add_mul] at hmul
       have Ho:xs.length=ds.length*i.size:=by rw [lI.xF,hn]
       have Xr:(E.μ k).base+xs.length<=(E.μ k).fin:=by omega
       have QR:w.there aW (off+es.length*i.size) xs.length:=by
        rw [Js,R2]
        exact Row.there r1 r2 (by omega)
       have cJ:=k7 (ty:=o.type) ht hu hi hz hlen vW aW off es.length cap (by rw [hn];exact hg) QR lI.one
       rw [Js,R2] at cJ
       obtain ⟨q1,q2,q3,q4⟩:=iO (E.μ k).aW xs (E.μ k).base w
       have Jt:(w.setCells (E.μ k).aW (E.μ k).base xs).heap[(E.μ k).aW]? =some (.cells (lP cells (E.μ k).base xs) ty fz):=fQ _ xs _ w r1
       have jH:∀ j,aT (w.setCells (E.μ k).aW (E.μ k).base xs) (E.μ k).aW j=if (E.μ k).base<=j/\j<(E.μ k).base+xs.length then xs[j - (E.μ k).base]? else cells[j]? :=by
        intro j
        simp only [aT,Jt]
        exact iF _ _ _ _ (by omega)
       have hZ:st.live k:=⟨_,dC⟩
       obtain ⟨s1,s2⟩:=hs.move (w':=w.setCells (E.μ k).aW (E.μ k).base xs) dC k.lH ⟨(E.μ k).aW,(E.μ k).base+xs.length,(E.μ k).fin⟩
        (fun j=>if (E.μ k).base<=j/\j<(E.μ k).base+xs.length then xs[j - (E.μ k).base]? else none) .spare rfl (by simp) (by simp) q1 (fun b cO=>gN _ cO _ _ _) q2 q3 q4
        (fun j x hx=>by
          have h1:=hs.gJ _ _ _ hx
          rw [jH]
          split
          · rename_i kN
            have:=hs.own k hZ j kN.1 (by omega)
            rw [this] at hx;cases hx
          · simpa [aT,r1] using h1)
        (fun j x hx=>by
          split at hx
          · rename_i kN
            refine ⟨by rw [jH,if_pos kN];exact hx,?_⟩
            simp only;omega
          · cases hx)
        ⟨_,ty,fz,Jt,by rw [eZ];exact r2,by simpa using Xr,by rw [eZ];exact r4,fun j v hj=>by simp at hj⟩
       refine aG (dW ho (by rw [IL];rw [Js];exact cJ)) (hc _ _ _ _ _ hw s1 s2 ?_)
       have I3:=hs.aE k.lH
       rw [St.fP,I3]
       have hIn:∀ j,(E.μ k).base<=j->j<(E.μ k).base+xs.length->E.I (E.μ k).aW j=none:=fun j a b=>hs.own k hZ j a (by omega)
       have UE:es.length+(e0::r0).length=(es++ds).length:=by rw [List.length_append,hn]
       rw [UE]
       have Xs:=EK.mono s2.le.gJ
       refine .AE _ _ _ _ _ (Env.cW _ _ _ _) (.sl _ _ _ _ _ (fun j=>if j<es.length*i.size then val j else xs.getD (j - es.length*i.size) default) (by rw [List.length_append];exact hg) (fun e he=>by
        rcases List.mem_append.1 he with h|h
        · exact hl e h
        · exact EL e h) (fun j d hj=>?_) (fun j d hj=>?_)) (by rw [Env.dP];exact ⟨rfl,rfl⟩) (.inr ?_)
       · rw [List.flatten_append] at hj
         by_cases vX:j<es.length*i.size
         · rw [List.getElem?_append_left (by omega)] at hj
           rw [if_pos vX]
           have:=hv j d hj
           rw [Js] at this
           exact s2.le.gJ _ _ _ this
         · rw [List.getElem?_append_right (by omega),Jq] at hj
           rw [if_neg vX]
           have hjx:j - es.length*i.size<xs.length:=by
            have:=(List.getElem?_eq_some_iff.1 hj).1
            omega
           simp only [Env.push]
           rw [hIn (off+j) (by omega) (by omega)]
           simp only [if_true]
           rw [if_pos (by omega),show off+j - (E.μ k).base=j - es.length*i.size by omega]
           simp [hjx]
       · rw [List.flatten_append] at hj
         by_cases vX:j<es.length*i.size
         · rw [List.getElem?_append_left (by omega)] at hj
           rw [if_pos vX]
           exact (hr j d hj).mono s2.le.gJ
         · rw [List.getElem?_append_right (by omega),Jq] at hj
           rw [if_neg vX]
           obtain ⟨x0,QS,s6⟩:=Xs _ d hj
           simp only [List.getD_eq_getElem?_getD,QS]
           exact s6
       · rw [Env.dP]
         refine ⟨?_,?_⟩
         · simp only [List.length_append,Nat.add_mul];omega
         · exact hh3
     · -- a new block
       have hold:(Builtin.firstCells i.size es.length (.slice (some ⟨aW,off,none⟩) es.length cap)).run P w.drew=.ok ((List.range (es.length*i.size)).map val).toArray w.drew:=by
        refine run_firstCells_some (P:=P) w.drew i.size es.length ⟨aW,off,none⟩ es.length cap _ (by simp) fun j v hj=>?_
        rw [Addr.add_mid]
        rw [List.getElem?_map] at hj
        have cQ:j<es.length*i.size:=by
         rcases Nat.lt_or_ge j (es.length*i.size) with h|h
         · exact h
         · rw [List.getElem?_eq_none (by simp;omega)] at hj;cases hj
        rw [List.getElem?_range cQ] at hj
        simp only [Option.map_some,Option.some.injEq] at hj
        subst hj
        have hex:∃ dd,es.flatten[j]? =some dd:=⟨es.flatten[j],by simp⟩
        obtain ⟨dd,AI⟩:=hex
        have:=hs.gJ _ _ _ (hv j dd AI)
        rw [jV]
        exact this
       have cJ:=jZ (ty:=o.type) ht hu hi w9 hz hlen RX (some ⟨aW,off,none⟩) es.length cap hold (by omega) IJ Oe
       have Gh:=grownCap_ge w (es.length+(e0::r0).length) cap el
       have mR:=qG (ys:=(List.range (es.length*i.size)).map val) (xs:=xs) (z:=z.cells) (p:=es.length) (q:=(e0::r0).length) (by simp) lI.xF OI rfl Gh
       have UF:iJ E.I es.flatten ((List.range (es.length*i.size)).map val):=by
        intro j d hj
        have cQ:j<es.length*i.size:=by rw [<-Jq];exact (List.getElem?_eq_some_iff.1 hj).1
        exact ⟨val j,by simp [cQ],hr j d hj⟩
       obtain ⟨E',s1,s2,iY⟩:=xD (z:=1) (w':=w.drew.alloc _) hs (some k) k.lH (fz:=(0,0)) (.inl rfl) (iL w _) (tB w _) (ds:=es++ds) (fun e he=>by
        rcases List.mem_append.1 he with h|h
        · exact hl e h
        · exact EL e h) mR (by rw [List.length_append,<-hn];exact Gh)
        (by rw [nE,List.flatten_append];exact zU UF (by simp [Jq]) EK _)
       refine aG (dW ho (by rw [IL];exact cJ)) (hc _ _ E' _ _ hw s1 s2 ?_)
       rw [List.length_append,<-hn] at iY
       rw [St.fP]
       exact iY
 · -- elements OC may be written
   rename_i k cS off len e1
   rw [e1] at Gg
   split at hw
   case isFalse=>exact hw.elim
   rename_i UC
   subst UC
   generalize IL:a.eval s=y at Gg
   cases Gg with
   |deep hd=>cases hd
   |ms _ _ _ _ ad cap hk Hn hh zV ha=>
   split at hw
   · refine aG (x:=.slice (some ad) len cap) (dW ho ?_) (hc.same hs hw (.ms _ _ _ _ _ _ hk Hn hh zV ha))
     rw [IL]
     exact jA ht hu hi hz hlen RY (some ad) len cap Hn
   · rename_i e0 r0
     obtain ⟨lR,ds,fX,ob,dC,hw⟩:=hw
     obtain ⟨IJ,Oe⟩:=rX lR Fh
     dsimp only at hw
     split at hw
     case h_2=>exact hw.elim
     rename_i dB es
     split at hw
     case isFalse=>exact hw.elim
     rename_i UC
     subst UC
     obtain ⟨kN,hw⟩:=hw
     have kN:off+len<=es.length:=by simpa using kN
     obtain ⟨zW,C3,EL⟩:=iP fX
     have EL:=EL lI.Fg
     have hn:(e0::r0).length=ds.length:=C3.symm
     have EK:fC (E.CM k.lH) ds.flatten xs:=lI.rel.own zW (by rw [lI.xF,w8])
     obtain ⟨hl,cells,ty,fz,r1,r2,r3,r4,r5⟩:=hs.obj k _ dC
     have Jq:=bT hl
     have Jr:=bT EL
     have Ho:xs.length=ds.length*i.size:=by rw [lI.xF,hn]
     have Xt:=EK.UA (by rw [Ho,Jr])
     have xG:0<ds.length:=by rw [<-hn];simp
     have l7:es.length<=off+cap:=by
      have:es.length*i.size<=(off+cap)*i.size:=by omega
      exact Nat.le_of_mul_le_mul_right this C2
     have hZ:st.live k:=⟨_,dC⟩
     have QT:len+(e0::r0).length=len+ds.length:=by rw [hn]
     rw [Nat.add_mul] at hh
     by_cases vO:off+len+ds.length<=es.length
     · -- in Fi is known
       have EM:=hw.1 (by simpa using vO)
       have Bu:len+ds.length<=cap:=by omega
       have ha:ad=⟨(E.μ k).aW,(E.μ k).base+off*i.size,none⟩:=by
        rcases ha with h|h
        · omega
        · exact h
       subst ha
       have Oi:(off+len+ds.length)*i.size<=es.length*i.size:=Nat.mul_le_mul_right _ vO
       rw [Nat.add_mul,Nat.add_mul] at Oi
       have QR:w.there (E.μ k).aW ((E.μ k).base+off*i.size+len*i.size) xs.length:=Row.there r1 r2 (by omega)
       have cJ:=k7 (ty:=o.type) ht hu hi hz hlen vW _ _ len cap (by rw [hn];exact Bu) QR lI.one
       rw [QT,Nat.add_assoc,<-Nat.add_mul] at cJ
       have Bs:=Gf hl EL (p:=off+len) vO
       have e9:=eH.written r1 r2 r3 r4 r5 (off:=(off+len)*i.size) (vs:=ds.flatten) (xs:=xs) (by rw [Env.nC];exact Xt) lI.one (by rw [Nat.add_mul];omega)
       rw [<-Bs] at e9
       have C4:∀ e∈es.take (off+len)++ds++es.drop (off+len+ds.length),e.length=i.size:=by
        intro e he
        rcases List.mem_append.1 he with h|h
        · rcases List.mem_append.1 h with h|h
          · exact hl e (List.mem_of_mem_take h)
          · exact EL e h
        · exact hl e (List.mem_of_mem_drop h)
       obtain ⟨s1,s2⟩:=hs.write dC r1 r4 (pos:=(E.μ k).base+(off+len)*i.size) (xs:=xs) (by omega) (by rw [Nat.add_mul];omega) (.arr i.size (es.take (off+len)++ds++es.drop (off+len+ds.length))) ⟨C4,e9⟩
       exact aG (dW ho (by rw [IL];exact cJ)) (hc _ _ E _ _ EM s1 s2 (.ms _ _ _ _ _ _ hk (by omega) (by rw [Nat.add_mul];exact hh) rfl (.inr rfl)))
     · have Hp:=hw.2 (by simpa using vO)
       rw [St.fP] at Hp
       have QU:((es.take (off+len)).drop off++ds).flatten=(es.flatten.drop (off*i.size)).take (len*i.size)++ds.flatten:=by
        have cQ:∀ e∈es.take (off+len),e.length=i.size:=fun e he=>hl e (List.mem_of_mem_take he)
        rw [List.flatten_append,iH cQ,iG hl,List.drop_take,Nat.add_mul]
        congr 2;omega
       have C4:∀ e∈(es.take (off+len)).drop off++ds,e.length=i.size:=by
        intro e he
        rcases List.mem_append.1 he with h|h
        · exact hl e (List.mem_of_mem_take (List.mem_of_mem_drop h))
        · exact EL e h
       have Ju:((es.take (off+len)).drop off++ds).length=len+ds.length:=by
        rw [List.length_append,List.length_drop,List.length_take];omega
       have UG:(off+len)*i.size<=es.length*i.size:=Nat.mul_le_mul_right _ kN
       rw [Nat.add_mul] at UG
       by_cases Bu:len+ds.length<=cap
       · -- in EI spare room
         have ha:ad=⟨(E.μ k).aW,(E.μ k).base+off*i.size,none⟩:=by
          rcases ha with h|h
          · omega
          · exact h
         subst ha
         have Oi:(len+ds.length)*i.size<=cap*i.size:=Nat.mul_le_mul_right _ Bu
         rw [Nat.add_mul] at Oi
         have QR:w.there (E.μ k).aW ((E.μ k).base+off*i.size+len*i.size) xs.length:=Row.there r1 r2 (by omega)
         have cJ:=k7 (ty:=o.type) ht hu hi hz hlen vW _ _ len cap (by rw [hn];exact Bu) QR lI.one
         rw [QT] at cJ
         obtain ⟨q1,q2,q3,q4⟩:=iO (E.μ k).aW xs ((E.μ k).base+off*i.size+len*i.size) w
         have Jt:=fQ _ xs ((E.μ k).base+off*i.size+len*i.size) w r1
         have jH:∀ j,(lP cells ((E.μ k).base+off*i.size+len*i.size) xs)[j]? =if (E.μ k).base+off*i.size+len*i.size<=j/\j<(E.μ k).base+off*i.size+len*i.size+xs.length then xs[j - ((E.μ k).base+off*i.size+len*i.size)]? else cells[j]? :=by
          intro j
          exact iF _ _ _ _ (by omega)
         obtain ⟨s1,s2⟩:=hs.move (w':=w.setCells (E.μ k).aW ((E.μ k).base+off*i.size+len*i.size) xs) dC k.lH ⟨(E.μ k).aW,(E.μ k).base+off*i.size,(E.μ k).fin⟩
          (fun _=>none) (.arr i.size ((es.take (off+len)).drop off++ds)) rfl (by simp) (by simp) q1 (fun b cO=>gN _ cO _ _ _) q2 q3 q4
          (fun j x hx=>by
            have h1:=hs.gJ _ _ _ hx
            simp only [aT,Jt,jH]
            split
            · rename_i aa5
              have:=hs.own k hZ j (by omega) (by omega)
              rw [this] at hx;cases hx
            · simpa [aT,r1] using h1)
          (fun j x hx=>by cases hx)
          ⟨C4,_,ty,fz,Jt,by rw [eZ];exact r2,by
           rw [bT C4,Ju,Nat.add_mul];simp only;omega,by rw [eZ];exact r4,fun j v hj=>by
           rw [QU] at hj
           rw [Env.AG]
           have hle:(E.CM k.lH).Le ((E.push k.lH ⟨(E.μ k).aW,(E.μ k).base+off*i.size,(E.μ k).fin⟩ fun b j=>if b=(E.μ k).aW then (fun _=>none) j else none).CM k.lH):=Env.C0 _ _ _ _ _
           have IK:((es.flatten.drop (off*i.size)).take (len*i.size)).length=len*i.size:=by
            rw [List.length_take,List.length_drop];omega
           simp only [jH]
           by_cases vX:j<len*i.size
           · rw [List.getElem?_append_left (by omega),List.getElem?_take,if_pos vX,List.getElem?_drop] at hj
             rw [if_neg (by omega)]
             obtain ⟨x0,QS,OJ,R3⟩:=r5 _ v hj
             rw [Nat.add_assoc]
             rw [Env.nC] at OJ
             exact ⟨x0,QS,OJ.mono hle,R3⟩
           · rw [List.getElem?_append_right (by omega),IK] at hj
             obtain ⟨x0,QS,OJ,R3⟩:=EK _ v hj
             have:=(List.getElem?_eq_some_iff.1 QS).1
             rw [if_pos (by omega)]
             refine ⟨x0,?_,OJ.mono hle,R3⟩
             rw [<-QS];congr 1;omega⟩
         refine aG (dW ho (by rw [IL];exact cJ)) (hc _ _ _ _ _ Hp s1 s2 ?_)
         have I3:=hs.aE k.lH
         rw [I3]
         refine .ms _ _ _ _ _ _ (Env.cW _ _ _ _) (by omega) ?_ (by rw [Env.dP]) (.inr ?_)
         · rw [Env.dP];simp only [Nat.zero_add];omega
         · rw [Env.dP];simp
       · -- a new block
         have ZF:∃ ys:List Value,ys.length=len*i.size/\fC (E.CM k.lH) ((es.flatten.drop (off*i.size)).take (len*i.size)) ys/\
          (Builtin.firstCells i.size len (.slice (some ad) len cap)).run P w.drew=.ok ys.toArray w.drew:=by
          rcases ha with h0|ha
          · have hl0:len=0:=by omega
            subst hl0
            refine ⟨[],by simp,fun j v hj=>by simp at hj,?_⟩
            simp [Builtin.firstCells,loadCells,loadCellsFrom]
          · subst ha
            have Xu:dV (E.CM k.lH) w (E.μ k).aW ((E.μ k).base+off*i.size) ((es.flatten.drop (off*i.size)).take (len*i.size)):=by
             have h1:eH i.size (E.at k) w (E.μ k) es.flatten:=⟨cells,ty,fz,r1,r2,r3,r4,r5⟩
             have:=h1.l6.sub (off*i.size) (len*i.size)
             rw [Env.nC] at this
             exact this
            obtain ⟨ys,y1,y2,y3,y4⟩:=Xu.list
            have UH:ys.length=len*i.size:=by rw [y1,List.length_take,List.length_drop];omega
            refine ⟨ys,UH,fun j v hj=>?_,?_⟩
            · obtain ⟨x0,QS,OJ⟩:=y3.get hj
              have UI:ys[j]? =some x0:=by simpa using QS
              exact ⟨x0,UI,OJ,y4 x0 (List.mem_of_getElem? UI)⟩
            · refine run_firstCells_some (P:=P) w.drew i.size len _ len cap ys UH fun j v hj=>?_
              rw [Addr.add_mid]
              have:=y2 j v hj
              exact this
         obtain ⟨ys,UH,Xv,hold⟩:=ZF
         have cJ:=jZ (ty:=o.type) ht hu hi w9 hz hlen RX (some ad) len cap hold (by omega) IJ Oe
         have Gh:=grownCap_ge w (len+(e0::r0).length) cap el
         have mR:=qG (ys:=ys) (xs:=xs) (z:=z.cells) (p:=len) (q:=(e0::r0).length) UH lI.xF OI rfl Gh
         obtain ⟨E',s1,s2,iY⟩:=C1 (w':=w.drew.alloc _) hs (some k) k.lH (fz:=(0,0)) (.inl rfl) (iL w _) (tB w _) (ds:=(es.take (off+len)).drop off++ds) C4 mR (by rw [Ju,<-hn];exact Gh)
          (by
            rw [nE,QU]
            exact rW Xv (by rw [UH,List.length_take,List.length_drop];omega) EK _)
         refine aG (dW ho (by rw [IL];exact cJ)) (hc _ _ E' _ _ Hp s1 s2 ?_)
         rw [Ju] at iY
         rw [QT] at*
         exact iY
 · exact hw.elim
end
open Go
theorem aA.xH:∀ (l:List (Nat×Obj)) (n:Nat) (o:Obj),aA.find l n=some o->aA.rF l n o=l
 |[],_,_,h=>by cases h
 |(k,x)::r,n,o,h=>by
  simp only [aA.find] at h
  simp only [aA.rF]
  split at h
  · rename_i hk
    rw [if_pos hk]
    simp only [Option.some.injEq] at h
    subst h;rfl
  · rename_i hk
    rw [if_neg hk,aA.xH r n o h]
theorem St.Jv {st:St} {k:Key} {o:Obj} (h:st.get k=some o):st.set k o=st:=by
 cases k with
 |g n=>simp only [St.set,aA.set];rw [aA.xH _ _ _ h]
 |l n=>simp only [St.set,aA.set];rw [aA.xH _ _ _ h]
section
variable {P:Program} {o:Oper} {a:Act} {E:Env} {N:Nat} {st:St} {w:World} {fr:Fr} {next:Act->World->Prop} {Q:Exit->Act->World->Prop} {K:R->Prop}
theorem zX {zero:List V} {n j:Nat} (hj:j<n*zero.length):(List.replicate n zero).flatten[j]? =zero[j%zero.length]? :=by
 have hp:0<zero.length:=by
  rcases Nat.eq_zero_or_pos zero.length with h|h
  · rw [h] at hj;simp at hj
  · exact h
 have hl:∀ e∈List.replicate n zero,e.length=zero.length:=fun e he=>by rw [(List.mem_replicate.1 he).2]
 have hq:j/zero.length<n:=(Nat.div_lt_iff_lt_mul hp).2 hj
 have:=jX hl (ix:=j/zero.length) (j:=j%zero.length) (e:=zero) (by simp [hq]) (Nat.mod_lt _ hp)
 rw [<-this]
 congr 1
 rw [Nat.mul_comm];exact (Nat.div_add_mod j _).symm
theorem C5 {z:Array Value} {n j:Nat} (hz:0<z.size) (hj:j<n):(madeCells z n)[j]? =z[j%z.size]? :=by
 have hm:j%z.size<z.size:=Nat.mod_lt _ hz
 simp [madeCells,hj,hm]
theorem xI {z:Array Value} {zero:List V} {len:Nat} (hr:cP E zero z) (hp:0<zero.length):cP E (List.replicate len zero).flatten (madeCells z (len*zero.length)):=by
 have hl:∀ e∈List.replicate len zero,e.length=zero.length:=fun e he=>by rw [(List.mem_replicate.1 he).2]
 have w8:=bT hl
 rw [List.length_replicate] at w8
 refine ⟨by rw [size_madeCells,w8],fun j v x hj hx=>?_⟩
 have cQ:j<len*zero.length:=by rw [<-w8];exact (List.getElem?_eq_some_iff.1 hj).1
 have OI:=hr.1
 rw [zX cQ] at hj
 rw [C5 (by omega) cQ,OI] at hx
 exact hr.2 _ v x hj hx
theorem xJ {z:Array Value} {n:Nat} (h1:∀ (j:Nat) (x:Value),z[j]? =some x->x.oneCell'=true) (hz:0<z.size) (j:Nat) (x:Value) (hx:(madeCells z n)[j]? =some x):x.oneCell'=true:=by
 have cQ:j<n:=by
  have:=(Array.getElem?_eq_some_iff.1 hx).1
  rwa [size_madeCells] at this
 rw [C5 hz cQ] at hx
 exact h1 _ x hx
theorem C6:∀ {vs e:List V},vs.length=e.length->b8 e 0 vs=vs:=by
 intro vs e h
 apply List.ext_getElem?
 intro j
 rw [e8 _ _ _ _ (by omega)]
 by_cases hj:j<vs.length
 · rw [if_pos (by omega)];rfl
 · rw [if_neg (by omega),List.getElem?_eq_none (by omega),List.getElem?_eq_none (by omega)]
def eO (sz:Nat):List (Nat×V)->List (Nat×Nat×V)
 |[]=>[]
 |(i,v)::r=>(i*sz,sz,v)::eO sz r
theorem nF {sz:Nat}:∀ {ps:List (Nat×V)} {es l4:List (List V)},(∀ e∈es,e.length=sz)->iB es sz ps=some l4->
 fI es.flatten (eO sz ps)=some l4.flatten/\(∀ e∈l4,e.length=sz)/\l4.length=es.length
 |[],es,l4,hl,h=>by
  simp only [iB,Option.some.injEq] at h
  subst h
  exact ⟨rfl,hl,rfl⟩
 |(i,v)::r,es,l4,hl,h=>by
  simp only [iB] at h
  split at h
  case isFalse=>cases h
  rename_i hc
  obtain ⟨h1,h2,h3⟩:=hc
  have C4:∀ e∈es.set i v.cells,e.length=sz:=by
   intro e he
   rcases List.mem_or_eq_of_mem_set he with h|h
   · exact hl e h
   · rw [h];exact h2
  obtain ⟨e1,e2,e3⟩:=nF C4 h
  have w8:=bT hl
  have hmul:(i+1)*sz<=es.length*sz:=Nat.mul_le_mul_right _ h3
  rw [Nat.succ_mul] at hmul
  refine ⟨?_,e2,by rw [e3];simp⟩
  simp only [eO,fI]
  rw [if_pos ⟨h1,h2,by omega⟩]
  have Br:es[i]? =some es[i]:=by simp [h3]
  have:=CZ hl Br 0 v.cells (by omega)
  rw [C6 (by rw [h2,hl _ (List.getElem_mem h3)]),Nat.add_zero] at this
  rw [<-this]
  exact e1
def lS:List (Nat×Operand)->List (Nat×aV)->Bool
 |[],[]=>true
 |(i,x)::r,(j,d)::q=>decide (i=j)&&b9 x d&&lS r q
 |_,_=>false
theorem p0 {sz:Nat} (hf:aJ E N fr a):∀ {ps:List (Nat×Operand)} {qs:List (Nat×aV)},lS ps qs=true->
 (eO sz (dT fr qs)).length=ps.length/\∀ (j:Nat) (q:Nat×Nat×V) (p:Nat×Operand),(eO sz (dT fr qs))[j]? =some q->ps[j]? =some p->(q.1=p.1*sz/\q.2.1=sz)/\Rel E q.2.2 (a.eval p.2)
 |[],[],_=>⟨rfl,fun j q p hq=>by simp [dT,eO] at hq⟩
 |(i,x)::r,(i',d)::q,h=>by
  simp only [lS,Bool.and_eq_true,decide_eq_true_eq] at h
  obtain ⟨⟨h0,h2⟩,h3⟩:=h
  subst h0
  obtain ⟨l1,l2⟩:=p0 (sz:=sz) hf h3
  refine ⟨by simp [dT,eO,l1],fun j y p hy hp=>?_⟩
  cases j with
  |zero=>
   simp [dT,eO] at hy hp
   subst hy;subst hp
   exact ⟨⟨rfl,rfl⟩,aH h2 hf⟩
  |succ j=>exact l2 j y p (by simpa [dT,eO] using hy) (by simpa using hp)
 |[],_::_,h=>by cases h
 |(_,_)::_,[],h=>by simp [lS] at h
theorem cP.Jw {cs:List V} {xs:Array Value} (hr:cP E cs xs) (h1:∀ (j:Nat) (x:Value),xs[j]? =some x->x.oneCell'=true):fC E cs xs.toList:=by
 intro j v hj
 obtain ⟨x,hx,s6⟩:=hr.get hj
 exact ⟨x,by simpa using hx,s6,h1 j x hx⟩
theorem Jx {t el:TypeId} {len:Nat} {ps:Array (Nat×Operand)} {qs:List (Nat×aV)} {m:gI} {sz bytes:Nat} {zero:List V} (ho:o.op=.buildSlice t len ps)
 (hu:P.underlying t=some (.slice el)) (Br:zT P el sz bytes=true) (Oj:gP P el zero=true) (Xw:len*sz<=16777216) (hp:lS ps.toList qs=true)
 (hs:bC E st w) (hf:aJ E N fr a) (hw:(step (.IX m sz len zero qs) fr st).wp (aB P) K) (hc:dJ E st w o a next K):o.wp P a w next Q:=by
 obtain ⟨i,z,hi,w9,gH,UB,C2,Fh,OI⟩:=o7 Br
 obtain ⟨i',z',Jy,C7,Jo,hr,hl,h1⟩:=fA Oj
 rw [hi] at Jy;cases Jy
 rw [w9] at C7;cases C7
 have QV:zero.length=sz:=by omega
 simp only [step] at hw
 unfold T.opt at hw
 split at hw
 case h_2=>exact hw.elim
 rename_i es Jq
 have UJ:∀ e∈List.replicate len zero,e.length=sz:=fun e he=>by rw [(List.mem_replicate.1 he).2];exact QV
 obtain ⟨f1,f2,f3⟩:=nF UJ Jq
 rw [List.length_replicate] at f3
 obtain ⟨l1,l2⟩:=p0 (sz:=sz) hf hp
 have QW:=xI (len:=len) (hr E) (by omega)
 have Fj:=xJ (n:=len*zero.length) h1 (by omega)
 rw [QV] at QW Fj
 obtain ⟨zs,uJ,wJ,Gd⟩:=xA (E:=E) (fun k=>some (k*sz,sz)) [] (eO sz (dT fr qs)) (ps.toList.map fun q=>(q.1,a.eval q.2)) _ _ _ f1 QW Fj (by simp [l1]) (fun j q x hq hx=>by
  rw [List.getElem?_map] at hx
  cases Jn:ps.toList[j]? with
  |none=>rw [Jn] at hx;cases hx
  |some p=>
   rw [Jn] at hx
   simp only [Option.map_some,Option.some.injEq] at hx
   subst hx
   obtain ⟨⟨E3,OG⟩,iY⟩:=l2 j q p hq Jn
   exact ⟨by simp [E3,OG],iY⟩)
 have Xx:zs.size=len*sz:=by rw [wJ.1,bT f2,f3]
 obtain ⟨v,aR,E',hk,s1,s2,iY⟩:=newSlice_ok (w':=w.alloc (.cells zs el)) hw hs (fz:=(0,0)) (.inl rfl) rfl ⟨rfl,rfl,rfl⟩ f2 Xx (by omega) (wJ.Jw Gd)
 refine aG (x:=.slice (some ⟨w.heap.size,0,none⟩) len len) ?_ (hc _ _ E' _ _ hk s1 s2 (by rw [<-f3];rw [<-f3] at iY;exact iY))
 have Bt:(ps.map fun (q:Nat×Operand)=>(q.1,a.eval q.2)).toList=ps.toList.map fun q=>(q.1,a.eval q.2):=by simp
 simp only [execOp,ho,Instr.buildSlice,Sem.run_bind,run_underlying hu,Result.andThen_ok]
 have hns:¬(len*sz>16777216):=by omega
 by_cases h0:len*sz=0
 · have he:len=0:=by
    rcases Nat.mul_eq_zero.1 h0 with h|h
    · exact h
    · omega
   subst he
   have UG:madeCells z.cells (0*sz)=#[]:=by
    apply Array.eq_empty_of_size_eq_zero
    rw [size_madeCells];omega
   rw [UG] at uJ
   simp [sizeOf,typeInfo,hi,newRow,gH,Array.range_zero',uJ]
 · have ZH:¬(len=0\/sz=0):=by
    rintro (h|h)
    · simp [h] at h0
    · omega
   simp only [madeCells] at uJ
   simp [sizeOf,typeInfo,hi,gH,hns,zeroValue,w9,newRow,uJ]
   exact fun h=>absurd h h0
theorem Hq {t el:TypeId} {x y:Operand} {d e:aV} {m:gI} {sz bytes:Nat} {zero:List V} (ho:o.op=.makeSlice t x y) (hx:b9 x d=true) (hy:b9 y e=true)
 (hu:P.underlying t=some (.slice el)) (Br:zT P el sz bytes=true) (Oj:gP P el zero=true)
 (hs:bC E st w) (hf:aJ E N fr a) (hw:(step (.CR m sz bytes zero d e) fr st).wp (aB P) K) (hc:dJ E st w o a next K):o.wp P a w next Q:=by
 obtain ⟨i,z,hi,w9,gH,UB,C2,Fh,OI⟩:=o7 Br
 obtain ⟨i',z',Jy,C7,Jo,hr,hl,h1⟩:=fA Oj
 rw [hi] at Jy;cases Jy
 rw [w9] at C7;cases C7
 have QV:zero.length=sz:=by omega
 have r1:=aH hx hf
 have r2:=aH hy hf
 simp only [step] at hw
 split at hw
 case h_2=>exact hw.elim
 rename_i k p k' q e1 e2
 rw [e1] at r1
 rw [e2] at r2
 have r1:=r1.int
 have r2:=r2.int
 obtain ⟨l9,hw⟩:=hw
 simp only [Bool.and_eq_true,decide_eq_true_eq] at l9
 obtain ⟨⟨h0,WE⟩,lR⟩:=l9
 subst WE
 obtain ⟨IJ,Oe⟩:=rX lR Fh
 have Xy:(i.bytes:Int)*p<=281474976710656:=by
  have h3:((i.bytes*p.toNat:Nat):Int)<=281474976710656:=by rw [UB,Nat.mul_comm];omega
  rw [Int.natCast_mul] at h3
  rwa [Int.toNat_of_nonneg h0] at h3
 have cJ:=run_make (P:=P) w t el i z hu hi w9 k k' p p h0 (Int.le_refl _) Xy (by omega)
 have QW:=xI (len:=p.toNat) (hr E) (by omega)
 have Fj:=xJ (n:=p.toNat*zero.length) h1 (by omega)
 rw [QV] at QW Fj
 have UJ:∀ e∈List.replicate p.toNat zero,e.length=sz:=fun e he=>by rw [(List.mem_replicate.1 he).2];exact QV
 rw [gH] at cJ
 obtain ⟨v,aR,E',hk,s1,s2,iY⟩:=newSlice_ok (w':=w.alloc (.cells (madeCells z.cells (p.toNat*sz)) el)) hw hs (fz:=(0,0)) (.inl rfl) rfl ⟨rfl,rfl,rfl⟩ UJ (cap:=p.toNat) (size_madeCells _ _) (by simp) (QW.Jw Fj)
 rw [List.length_replicate] at iY
 exact aG (x:=.slice (some ⟨w.heap.size,0,none⟩) p.toNat p.toNat) (by simp [execOp,ho,r1,r2,cJ]) (hc _ _ E' _ _ hk s1 s2 iY)
theorem mV.mark {fz:Nat×Nat} {n:Nat} (h:mV 1 fz n):mV 1 (if fz.1==fz.2 then (n,n+1) else (min fz.1 n,max fz.2 (n+1))) n:=by
 obtain ⟨lo,hi⟩:=fz
 simp only [mV] at*
 split
 · exact .inr ⟨Nat.le_refl _,trivial⟩
 · rename_i cO
   simp at cO
   rcases h with h|h
   · exact absurd h cO
   · exact .inr ⟨by simp only;omega,trivial⟩
theorem nG {b n:Nat} {c:Array Value} {t:TypeId} {fz:Nat×Nat} (h:w.heap[b]? =some (.cells c t fz)):
 (w.freeze ⟨b,n,none⟩ 1).heap[b]? =some (.cells c t (if fz.1==fz.2 then (n,n+1) else (min fz.1 n,max fz.2 (n+1)))):=by
 simp [World.freeze,Array.getElem?_modify,h]
theorem rY {b b' n:Nat} (h:b'≠b):(w.freeze ⟨b,n,none⟩ 1).heap[b']? =w.heap[b']? :=by
 simp only [World.freeze]
 simp only [Nat.succ_ne_zero,if_false,Array.getElem?_modify]
 rw [if_neg (fun e=>h e.symm)]
theorem C8 {ob:Array Value} {t:TypeId} {n:Nat}:((w.drew.alloc (.cells ob t)).freeze ⟨w.heap.size,n,none⟩ 1).heap=w.heap.push (.cells ob t (n,n+1)):=by
 apply Array.ext_getElem?
 intro j
 by_cases hj:j=w.heap.size
 · subst hj
   rw [nG (c:=ob) (t:=t) (fz:=(0,0)) (by rw [iL];simp)]
   simp
 · rw [rY hj,iL]
   simp only [Array.getElem?_push,if_neg hj]
theorem rZ {b off:Nat} {c:Array Value} {t:TypeId} {fz:Nat×Nat} (h:w.heap[b]? =some (.cells c t fz)):
 (markStringish ⟨b,off,none⟩).run P w=.ok () (w.freeze ⟨b,c.size,none⟩ 1):=by
 simp [markStringish,shape,freeze,Sem.run,World.shape?,h]
theorem p4 (l:List UInt8):(cT l).length=l.length:=by simp [cT]
theorem Bv (l:List UInt8):∀ e∈cT l,e.length=1:=by
 intro e he
 simp only [cT,List.mem_map] at he
 obtain ⟨c,_,rfl⟩:=he
 rfl
theorem zY (l:List UInt8) (rest:List Value):fC E (cT l).flatten (l.map (fun c=>Value.int .u8 c.toNat)++rest):=by
 intro j v hj
 rw [jY,List.getElem?_map] at hj
 cases hc:l[j]? with
 |none=>rw [hc] at hj;cases hj
 |some c=>
  rw [hc] at hj
  simp only [Option.map_some,Option.some.injEq] at hj
  subst hj
  have cQ:=(List.getElem?_eq_some_iff.1 hc).1
  exact ⟨.int .u8 c.toNat,by rw [List.getElem?_append_left (by simpa using cQ)];simp [hc],.deep (.i _ _),rfl⟩
theorem Jz {t t' el:TypeId} {x:Operand} {d:aV} {m:gI} (ho:o.op=.convert t t' x) (hx:b9 x d=true) (UK:P.underlying t=some .string) (hu:P.underlying t'=some (.slice el)) (he:P.underlying el=some (.int .u8))
 (hs:bC E st w) (hf:aJ E N fr a) (hw:(step (.IY m d) fr st).wp (aB P) K) (hc:dJ E st w o a next K):o.wp P a w next Q:=by
 have r1:=aH hx hf
 simp only [step] at hw
 split at hw
 case h_2=>exact hw.elim
 rename_i l e1
 rw [e1] at r1
 have r1:=r1.vJ
 have gH:(str l).size=l.length:=by simp [str,ByteArray.size]
 have Gh:=grownCap_ge w l.length 0 el
 have o5:((str l).data.map (fun b=>Value.int .u8 b.toNat)++Array.replicate (grownCap w l.length 0 el - l.length) (Value.int .u8 0)).toList=l.map (fun c=>Value.int .u8 c.toNat)++List.replicate (grownCap w l.length 0 el - l.length) (Value.int .u8 0):=by
  simp [str]
 have mR:((str l).data.map (fun b=>Value.int .u8 b.toNat)++Array.replicate (grownCap w l.length 0 el - l.length) (Value.int .u8 0)).size=grownCap w l.length 0 el*1:=by
  simp [str];omega
 generalize JA:((str l).data.map (fun b=>Value.int .u8 b.toNat)++Array.replicate (grownCap w l.length 0 el - l.length) (Value.int .u8 0))=cells at o5 mR
 obtain ⟨v,aR,E',hk,s1,s2,iY⟩:=newSlice_ok (w':=(w.drew.alloc (.cells cells el)).freeze ⟨w.heap.size,cells.size,none⟩ 1) hw hs (fz:=(cells.size,cells.size+1)) (.inr ⟨Nat.le_refl _,rfl⟩) C8 ⟨rfl,rfl,rfl⟩ (Bv l) (cap:=grownCap w l.length 0 el) mR (by rw [p4];exact Gh)
  (by rw [o5];exact zY l _)
 rw [p4] at iY
 refine aG (x:=.slice (some ⟨w.heap.size,0,none⟩) l.length (grownCap w l.length 0 el)) ?_ (hc _ _ E' _ _ hk s1 s2 iY)
 have hm:=rZ (P:=P) (w:=w.drew.alloc (.cells cells el)) (b:=w.heap.size) (off:=0) (c:=cells) (t:=el) (fz:=(0,0)) (by rw [iL];simp)
 simp only [execOp,ho,r1,convert,Sem.run_bind,run_underlying UK,run_underlying hu,run_underlying he,Result.andThen_ok,Conv.stringToBytes,gH]
 simp [newRow,Question.forced]
 simp only [grownCap] at JA
 simp only [grownCap]
 have:Result.andThen ((markStringish ⟨w.heap.size,0,none⟩).run P (w.drew.alloc (.cells cells el))) (fun _ w'=>Result.ok () w')=.ok () ((w.drew.alloc (.cells cells el)).freeze ⟨w.heap.size,cells.size,none⟩ 1):=by rw [hm];rfl
 simp [JA,hm]
theorem JB {t el:TypeId} {x:Operand} {d:aV} (ho:o.op=.convert t t x) (hx:b9 x d=true) (hu:P.underlying t=some (.slice el)) (he:P.underlying el=some (.int .u8))
 (hs:bC E st w) (hf:aJ E N fr a) (hw:(step (.Ob d) fr st).wp (aB P) K) (hc:dJ E st w o a next K):o.wp P a w next Q:=by
 have r1:=aH hx hf
 have fin:∀ {k:Key} {ob:Obj} {ad:Addr} {len cap:Nat} {v:V} {c:Array Value} {ty:TypeId} {fz:Nat×Nat},st.get k=some ob->w.heap[(E.μ k).aW]? =some (.cells c ty fz)->ad.block=(E.μ k).aW->
  (∀ w':World,w'.heap[(E.μ k).aW]? =some (.cells c ty (if fz.1==fz.2 then (c.size,c.size+1) else (min fz.1 c.size,max fz.2 (c.size+1))))->Holds (E.at k) w' (E.μ k) ob)->
  a.eval x=.slice (some ad) len cap->Rel E v (.slice (some ad) len cap)->K (v,st)->o.wp P a w next Q:=by
  intro k ob ad len cap v c ty fz dC hb ZI hh hv hr hk
  obtain ⟨s1,s2⟩:=hs.set (w':=w.freeze ⟨(E.μ k).aW,c.size,none⟩ 1) dC ob (by simp [World.freeze]) (fun b cO=>rY cO) rfl rfl rfl (fun j x hx=>by
   have:=hs.gJ _ _ _ hx
   simp only [aT,nG hb]
   simpa [aT,hb] using this) (hh _ (nG hb))
  rw [St.Jv dC] at s1 s2
  refine aG (x:=.slice (some ad) len cap) ?_ (hc _ _ E _ _ hk s1 s2 hr)
  obtain ⟨b,off,sp⟩:=ad
  simp only at ZI
  subst ZI
  simp [execOp,ho,hv,convert,run_underlying hu,run_underlying he,markStringish,shape,freeze,Sem.run,World.shape?,hb]
 simp only [step] at hw
 split at hw
 · rename_i k sz es e1
   rw [e1] at r1
   obtain ⟨ob,dC,hw⟩:=hw
   dsimp only at hw
   split at hw
   case h_2=>exact hw.elim
   generalize hv:a.eval x=y at r1
   cases r1 with
   |deep hd=>cases hd
   |AE _ _ _ ad cap hk hd zV hh=>
    obtain ⟨c,ty,fz,q1,q2,q3,q4,q5⟩:=hs.obj k _ dC
    exact fin dC q1 zV.1 (fun w' Jt=>⟨c,ty,_,Jt,q2.mark,q3,q4,fun j v hj=>by simp at hj⟩) hv (.AE _ _ _ _ _ hk hd zV hh) hw
 · rename_i k sz off len e1
   rw [e1] at r1
   obtain ⟨ob,dC,hw⟩:=hw
   dsimp only at hw
   split at hw
   case h_2=>exact hw.elim
   split at hw
   case isFalse=>exact hw.elim
   rename_i uJ
   subst uJ
   generalize hv:a.eval x=y at r1
   cases r1 with
   |deep hd=>cases hd
   |ms _ _ _ _ ad cap hk Hn hh zV ha=>
    obtain ⟨hl,c,ty,fz,q1,q2,q3,q4,q5⟩:=hs.obj k _ dC
    exact fin dC q1 zV (fun w' Jt=>⟨hl,c,ty,_,Jt,q2.mark,q3,q4,q5⟩) hv (.ms _ _ _ _ _ _ hk Hn hh zV ha) hw
 · exact hw.elim
theorem mA:∀ {es:List (List V)} {y:List UInt8},bytesOf es=some y->∃ ns:List Int,es=ns.map (fun n=>[V.i .u8 n])/\y=ns.map fun n=>UInt8.ofNat n.toNat
 |[],y,h=>by simp only [bytesOf,Option.some.injEq] at h;subst h;exact ⟨[],rfl,rfl⟩
 |e::r,y,h=>by
  unfold bytesOf at h
  split at h
  · cases ‹_=[]›
  · rename_i n r' heq
    cases heq
    split at h
    · rename_i x hx
      simp only [Option.some.injEq] at h
      subst h
      obtain ⟨ns,h1,h2⟩:=mA hx
      exact ⟨n::ns,by simp [h1],by simp [h2]⟩
    · cases h
  · cases h
theorem foldl_push:∀ (ns:List Int) (s:ByteArray),ns.foldl (fun (r:ByteArray) n=>r.push (UInt8.ofNat n.toNat)) s=⟨s.data++(ns.map fun n=>UInt8.ofNat n.toNat).toArray⟩
 |[],s=>by simp
 |n::r,s=>by
  rw [List.foldl_cons,foldl_push r]
  cases s with
  |mk d=>
  apply ByteArray.ext
  apply Array.ext'
  simp [ByteArray.push]
theorem JC {t t' el:TypeId} {x:Operand} {d:aV} (ho:o.op=.convert t t' x) (hx:b9 x d=true) (hu:P.underlying t=some (.slice el)) (he:P.underlying el=some (.int .u8)) (UK:P.underlying t'=some .string)
 (hs:bC E st w) (hf:aJ E N fr a) (hw:(step (.Ga d) fr st).wp (aB P) K) (hc:dJ E st w o a next K):o.wp P a w next Q:=by
 have r1:=aH hx hf
 simp only [step] at hw
 obtain ⟨es,xs,⟨y,hy,hk⟩,lI⟩:=elems_ok (P:=P) hs r1 hw
 obtain ⟨ns,rfl,rfl⟩:=mA hy
 have Ux:xs=ns.map (Value.int .u8):=by
  apply List.ext_getElem?
  intro j
  have Ho:=lI.xF
  simp only [List.length_map,Nat.mul_one] at Ho
  by_cases hj:j<ns.length
  · have w8:(ns.map fun n=>[V.i .u8 n]).flatten=ns.map (V.i .u8):=by
     clear hy hk lI hw Ho hj
     induction ns with
     |nil=>rfl
     |cons n r ih=>simp [ih]
    obtain ⟨z,hz,OH,_⟩:=lI.rel j (.i .u8 ns[j]) (by rw [w8];simp [hj])
    rw [hz,OH.int]
    simp [hj]
  · rw [List.getElem?_eq_none (by omega),List.getElem?_eq_none (by simp;omega)]
 subst Ux
 have hlen:=lI.len w
 have vW:=lI.first w rfl ns.length (by simp)
 simp only [Nat.mul_one] at vW
 rw [List.take_of_length_le (by simp)] at vW
 have Xz:ns.foldl (fun (r:ByteArray) n=>r.push (UInt8.ofNat n.toNat)) ByteArray.empty=str (ns.map fun n=>UInt8.ofNat n.toNat):=by
  rw [foldl_push];simp [str]
 refine aG (x:=.string (str (ns.map fun n=>UInt8.ofNat n.toNat))) ?_ (hc.same hs hk (.deep (.s _)))
 simp only [List.length_map] at hlen
 cases hv:a.eval x with
 |slice p len cap=>
  rw [hv] at hlen vW
  have hl:len=ns.length:=by simpa [Builtin.lenOf] using hlen
  subst hl
  cases p with
  |none=>
   simp [Builtin.firstCells] at vW
   have h0:ns=[]:=by
    cases ns with
    |nil=>rfl
    |cons n r=>simp at vW
   subst h0
   simp [execOp,ho,hv,convert,run_underlying hu,run_underlying he,run_underlying UK,Conv.bytesToString]
   rfl
  |some ad=>
   simp [Builtin.firstCells] at vW
   have hb:=run_bytesToString (P:=P) w ad ns.length cap ns (by simpa using vW)
   rw [Xz] at hb
   simp [execOp,ho,hv,convert,run_underlying hu,run_underlying he,run_underlying UK,hb]
 |string s=>
  rw [hv] at r1 hlen vW
  have XA:s.size=ns.length:=by simpa [Builtin.lenOf] using hlen
  simp only [Builtin.firstCells,Sem.run_pure,Result.ok.injEq,and_true] at vW
  have:s=str (ns.map fun n=>UInt8.ofNat n.toNat):=by
   have h2:=congrArg Array.toList vW
   simp only [Array.toList_map,ByteArray.data_extract] at h2
   cases s with
   |mk da=>
   have h3:(da.extract 0 ns.length)=da:=by
    have:da.size=ns.length:=XA
    rw [<-this];simp
   simp only [h3] at h2
   apply ByteArray.ext
   apply Array.ext'
   simp only [str]
   apply List.ext_getElem?
   intro j
   have h4:=congrArg (fun l=>l[j]?) h2
   simp only [List.getElem?_map] at h4
   rw [List.getElem?_map]
   cases h5:da.toList[j]? with
   |none=>
    rw [h5] at h4
    cases h6:ns[j]? with
    |none=>rfl
    |some n=>rw [h6] at h4;cases h4
   |some b=>
    rw [h5] at h4
    cases h6:ns[j]? with
    |none=>rw [h6] at h4;cases h4
    |some n=>
     rw [h6] at h4
     simp only [Option.map_some,Option.some.injEq,Value.int.injEq,true_and] at h4
     rw [<-h4]
     simp
  subst this
  simp [execOp,ho,hv,convert,run_underlying hu,run_underlying UK]
 |_=>rw [hv] at hlen;simp [Builtin.lenOf,stuck] at hlen
end
open Go
section
variable {P:Program} {o:Oper} {a:Act} {E:Env} {N:Nat} {st:St} {w:World} {fr:Fr} {next:Act->World->Prop} {Q:Exit->Act->World->Prop} {K:R->Prop}
theorem Rel.AJ {y:Value} (h:Rel E .bU y):y=.slice none 0 0:=by cases h with|deep h=>cases h;rfl
theorem Rel.WG {tok:Option Key} {sz:Nat} {es:List (List V)} {y:Value} (h:Rel E (.sl tok sz es) y):∃ p cap,y=.slice p es.length cap/\es.length<=cap/\((es=[]/\cap=0/\tok=none)\/
 ∃ (aW off:Nat) (val:Nat->Value),p=some ⟨aW,off,none⟩/\(∀ e∈es,e.length=sz)/\(∀ j d,es.flatten[j]? =some d->E.I aW (off+j)=some (val j))/\(∀ j d,es.flatten[j]? =some d->cV E.I d (val j))/\
  (∀ k,tok=some k->E.has k/\aW=(E.μ k).aW/\(cap=es.length\/(off+es.length*sz=(E.μ k).base/\off+cap*sz=(E.μ k).fin)))):=by
 cases h with
 |deep hd=>
  cases hd with
  |jF=>exact ⟨none,0,rfl,Nat.le_refl _,.inl ⟨rfl,rfl,rfl⟩⟩
  |EW _ a hs=>exact ⟨some a,0,rfl,Nat.le_refl _,.inl ⟨rfl,rfl,rfl⟩⟩
  |sl _ _ aW off cap val hc hl hv hr=>exact ⟨_,_,rfl,hc,.inr ⟨aW,off,val,rfl,hl,hv,hr,fun k hk=>by cases hk⟩⟩
 |AE k _ _ ad cap hk hd hb hs=>
  cases hd with
  |EW _ _ hn=>exact absurd hb.2 hn
  |sl _ _ aW off _ val hc hl hv hr=>
   exact ⟨_,_,rfl,hc,.inr ⟨aW,off,val,rfl,hl,hv,hr,fun k' jG=>by cases jG;exact ⟨hk,hb.1,hs⟩⟩⟩
theorem nH {x:Operand} {ts:Array TypeId} {v:Value} (ho:o.op=.call { callee:=.builtin .len,args:=#[x],argTypes:=ts })
 (h:(Builtin.len_ ts o.type #[a.eval x]).run P w=.ok v w):(execOp a.eval o).run P w=.ok (.value v) w:=by
 simp [execOp,ho,resolve,invoke,builtin,h,Result.andThen]
theorem Hr {x:Operand} {d:aV} {ts:Array TypeId} {t:TypeId} (ho:o.op=.call { callee:=.builtin .len,args:=#[x],argTypes:=ts }) (ht:ts[0]? =some t) (hu:P.underlying t=some .string) (hx:b9 x d=true)
 (hs:bC E st w) (hf:aJ E N fr a) (hw:(step (.zP d) fr st).wp (aB P) K) (hc:dJ E st w o a next K):o.wp P a w next Q:=by
 have r1:=aH hx hf
 simp only [step] at hw
 split at hw
 case h_2=>exact hw.elim
 rename_i l e1
 rw [e1] at r1
 have r1:=r1.vJ
 have gH:(str l).size=l.length:=by simp [str,ByteArray.size]
 exact aG (x:=goInt l.length) (nH ho (by simp [Builtin.len_,ht,r1,run_underlying hu,gH])) (hc.same hs hw (.deep (.i _ _)))
theorem Hs {x:Operand} {d:aV} {ts:Array TypeId} {t el:TypeId} (ho:o.op=.call { callee:=.builtin .len,args:=#[x],argTypes:=ts }) (ht:ts[0]? =some t) (hu:P.underlying t=some (.slice el)) (hx:b9 x d=true)
 (hs:bC E st w) (hf:aJ E N fr a) (hw:(step (.zQ d) fr st).wp (aB P) K) (hc:dJ E st w o a next K):o.wp P a w next Q:=by
 have r1:=aH hx hf
 have cJ:∀ p (n c:Nat),a.eval x=.slice p n c->(execOp a.eval o).run P w=.ok (.value (goInt n)) w:=fun p n c h=>nH ho (by simp [Builtin.len_,ht,h,run_underlying hu])
 simp only [step] at hw
 split at hw
 · rename_i e1
   rw [e1] at r1
   exact aG (cJ _ _ _ r1.AJ) (hc.same hs hw (.deep (.i _ _)))
 · rename_i tok sz es e1
   rw [e1] at r1
   obtain ⟨p,cap,hv,_⟩:=r1.WG
   exact aG (cJ _ _ _ hv) (hc.same hs hw (.deep (.i _ _)))
 · rename_i k sz off n e1
   rw [e1] at r1
   generalize hv:a.eval x=y at r1
   cases r1 with
   |deep hd=>cases hd
   |ms=>exact aG (cJ _ _ _ hv) (hc.same hs hw (.deep (.i _ _)))
 · exact hw.elim
theorem Ht {x:Operand} {n:Nat} {ts:Array TypeId} {t el:TypeId} (ho:o.op=.call { callee:=.builtin .len,args:=#[x],argTypes:=ts }) (ht:ts[0]? =some t) (hu:P.underlying t=some (.array n el))
 (hs:bC E st w) (hw:(step (.zR n) fr st).wp (aB P) K) (hc:dJ E st w o a next K):o.wp P a w next Q:=
 aG (x:=goInt n) (nH ho (by simp [Builtin.len_,ht,run_underlying hu])) (hc.same hs hw (.deep (.i _ _)))
theorem Hu {x:Operand} {d:aV} {ts:Array TypeId} {t kt el:TypeId} (ho:o.op=.call { callee:=.builtin .len,args:=#[x],argTypes:=ts }) (ht:ts[0]? =some t) (hu:P.underlying t=some (.map kt el)) (hx:b9 x d=true)
 (hs:bC E st w) (hf:aJ E N fr a) (hw:(step (.zS d) fr st).wp (aB P) K) (hc:dJ E st w o a next K):o.wp P a w next Q:=by
 have r1:=aH hx hf
 simp only [step] at hw
 split at hw
 · rename_i e1
   rw [e1] at r1
   generalize hv:a.eval x=y at r1
   cases r1 with
   |deep hd=>cases hd
   |cY=>exact aG (x:=goInt (0:Nat)) (nH ho (by simp [Builtin.len_,ht,hv,run_underlying hu])) (hc.same hs hw (.deep (.i _ _)))
 · rename_i k e1
   rw [e1] at r1
   obtain ⟨ob,dC,hw⟩:=hw
   dsimp only at hw
   split at hw
   case h_2=>exact hw.elim
   rename_i kd es
   generalize hv:a.eval x=y at r1
   cases r1 with
   |deep hd=>cases hd
   |m _ hk=>
    obtain ⟨aP,clock,q1,q2,_⟩:=hs.obj k _ dC
    refine aG (x:=goInt es.length) (nH ho ?_) (hc.same hs hw (.deep (.i _ _)))
    simp [Builtin.len_,ht,hv,run_underlying hu,getObj,Sem.run,q1,q2]
 · exact hw.elim
theorem cH {lo:Option Operand} {d:Option aV} (hl:m8 lo d=true) (hf:aJ E N fr a) {n l:Int} (h:cL (aV.mZ fr d) n=some l):
 (lo.map a.eval=none/\aV.mZ fr d=none/\l=n)\/∃ k,lo.map a.eval=some (.int k l):=by
 rcases CY hf hl with ⟨h1,h2⟩|⟨y,v,h1,h2,h3⟩
 · rw [h2] at h
   simp only [cL,Option.some.injEq] at h
   exact .inl ⟨by rw [h1];rfl,h2,h.symm⟩
 · rw [h2] at h
   simp only [cL] at h
   cases v<;>simp only [m6,Option.some.injEq,reduceCtorEq] at h
   subst h
   have h3:=h3.int
   subst h3
   exact .inr ⟨_,h1⟩
theorem j0 (isSlice:Bool) (len cap:Nat) {lo hi:Option Value} {l h:Int} (hh:(hi=none/\h=len)\/∃ k,hi=some (.int k h)) (hl:(lo=none/\l=0)\/∃ k,lo=some (.int k l))
 (h0:0<=l) (h1:l<=h) (h2:h<=cap):(Instr.sliceBounds isSlice len cap lo hi none).run P w=.ok (l.toNat,h.toNat,cap) w:=by
 have RZ:l<=(h.toNat:Int):=by omega
 have ZH:0<=h:=by omega
 have XB:max h 0=h:=by omega
 have vY:¬h<l:=by omega
 rcases hh with ⟨rfl,rfl⟩|⟨k,rfl⟩<;>rcases hl with ⟨rfl,rfl⟩|⟨k',rfl⟩<;>simp [Instr.sliceBounds,run_sliceBound,h0,h1,h2,ZH,XB]
theorem Fk {t:TypeId} {x:Operand} {lo hi:Option Operand} {d:aV} {l h:Option aV} (ho:o.op=.slice t x lo hi none) (hu:P.underlying t=some .string) (hx:b9 x d=true) (QX:m8 lo l=true) (QY:m8 hi h=true)
 (hs:bC E st w) (hf:aJ E N fr a) (hw:(step (.pW d l h) fr st).wp (aB P) K) (hc:dJ E st w o a next K):o.wp P a w next Q:=by
 have r1:=aH hx hf
 simp only [step] at hw
 split at hw
 case h_2=>exact hw.elim
 rename_i y e1
 rw [e1] at r1
 have r1:=r1.vJ
 unfold T.opt at hw
 split at hw
 case h_2=>exact hw.elim
 rename_i h' OK
 split at hw
 case h_2=>exact hw.elim
 rename_i l' qF
 obtain ⟨l9,hw⟩:=hw
 simp only [Bool.and_eq_true,decide_eq_true_eq] at l9
 obtain ⟨⟨c1,c2⟩,c3⟩:=l9
 have gH:(str y).size=y.length:=by simp [str,ByteArray.size]
 have b1:=cH QY hf OK
 have b2:=cH QX hf qF
 have hb:=j0 (P:=P) (w:=w) false y.length y.length (lo:=lo.map a.eval) (hi:=hi.map a.eval) (l:=l') (h:=h') (b1.imp (fun q=>⟨q.1,q.2.2⟩) id) (b2.imp (fun q=>⟨q.1,q.2.2⟩) id) c1 c2 c3
 refine aG (x:=.string (str ((y.take h'.toNat).drop l'.toNat))) ?_ (hc.same hs hw (.deep (.s _)))
 have he:(str y).extract l'.toNat h'.toNat=str ((y.take h'.toNat).drop l'.toNat):=by
  apply ByteArray.ext
  apply Array.ext'
  simp only [ByteArray.data_extract,str,Array.toList_extract]
  simp [List.drop_take]
 simp [execOp,ho,r1,Instr.sliceAt,Instr.slice,run_underlying hu,gH,hb,he]
theorem Hv {t el:TypeId} {x:Operand} {lo hi:Option Operand} {d:aV} {l h:Option aV} {sz:Nat} (ho:o.op=.slice t x lo hi none) (hu:P.underlying t=some (.slice el)) (hz:(P.info? el).map (·.size)=some sz) (C2:0<sz)
 (hx:b9 x d=true) (QX:m8 lo l=true) (QY:m8 hi h=true)
 (hs:bC E st w) (hf:aJ E N fr a) (hw:(step (.mY sz d l h none) fr st).wp (aB P) K) (hc:dJ E st w o a next K):o.wp P a w next Q:=by
 have r1:=aH hx hf
 cases hq:P.info? el with
 |none=>simp [hq] at hz
 |some i=>
 have RU:i.size=sz:=by simpa [hq] using hz
 have cJ:∀ {p:Option Addr} {len cap:Nat} {l' h':Int},a.eval x=.slice p len cap->(Instr.sliceBounds true len cap (lo.map a.eval) (hi.map a.eval) none).run P w=.ok (l'.toNat,h'.toNat,cap) w->
  (execOp a.eval o).run P w=.ok (.value (.slice (if cap=l'.toNat then p else p.map (·.add (l'.toNat*sz))) (h'.toNat - l'.toNat) (cap - l'.toNat))) w:=by
  intro p len cap l' h' hv hb
  simp [execOp,ho,hv,Instr.sliceAt,Instr.slice,run_underlying hu,hb,sizeOf,typeInfo,hq,RU]
 simp only [step] at hw
 split at hw
 · rename_i e1
   rw [e1] at r1
   have r1:=r1.AJ
   unfold T.opt at hw
   split at hw
   case h_2=>exact hw.elim
   rename_i h' OK
   split at hw
   case h_2=>exact hw.elim
   rename_i l' qF
   obtain ⟨l9,hw⟩:=hw
   simp only [Bool.and_eq_true,decide_eq_true_eq] at l9
   obtain ⟨rfl,rfl⟩:=l9
   have b1:=cH QY hf OK
   have b2:=cH QX hf qF
   have hb:=j0 (P:=P) (w:=w) true 0 0 (lo:=lo.map a.eval) (hi:=hi.map a.eval) (l:=0) (h:=0) (b1.imp (fun q=>⟨q.1,q.2.2⟩) id) (b2.imp (fun q=>⟨q.1,q.2.2⟩) id) (by omega) (by omega) (by omega)
   exact aG (cJ r1 hb) (hc.same hs hw (by simpa using Rel.deep .bU))
 · rename_i tok cS es e1
   rw [e1] at r1
   split at hw
   case isFalse=>exact hw.elim
   rename_i xK
   subst xK
   obtain ⟨p,cap,hv,Hn,hp⟩:=r1.WG
   split at hw
   · -- WH an upper bound
     rename_i xL
     unfold T.opt at hw
     split at hw
     case h_2=>exact hw.elim
     rename_i l' qF
     obtain ⟨l9,hw⟩:=hw
     simp only [Bool.and_eq_true,decide_eq_true_eq] at l9
     obtain ⟨c1,c2⟩:=l9
     have b2:=cH QX hf qF
     have hnn:hi.map a.eval=none:=by
      rcases CY hf QY with ⟨h1,_⟩|⟨_,_,_,h2,_⟩
      · rw [h1];rfl
      · rw [xL] at h2;cases h2
     have hb:=j0 (P:=P) (w:=w) true es.length cap (lo:=lo.map a.eval) (hi:=hi.map a.eval) (l:=l') (h:=(es.length:Int)) (.inl ⟨hnn,rfl⟩) (b2.imp (fun q=>⟨q.1,q.2.2⟩) id) c1 c2 (by omega)
     have ZJ:l'.toNat<=es.length:=by omega
     have hlen:(es.length:Int).toNat - l'.toNat=(es.drop l'.toNat).length:=by simp
     refine aG (cJ hv hb) (hc.same hs hw ?_)
     rw [hlen]
     rcases hp with ⟨rfl,rfl,rfl⟩|⟨aW,off,val,rfl,hl,EN,I8,Ol⟩
     · have:l'.toNat=0:=by simpa using ZJ
       rw [this]
       exact .deep (.wI _ _)
     · have C4:∀ e∈es.drop l'.toNat,e.length=cS:=fun e he=>hl e (List.mem_of_mem_drop he)
       by_cases l7:cap=l'.toNat
       · have C9:es.drop l'.toNat=[]:=List.drop_eq_nil_of_le (by omega)
         rw [if_pos l7,l7,Nat.sub_self,C9]
         have hd:cV E.I (.sl none cS []) (.slice (some ⟨aW,off,none⟩) 0 0):=.sl cS [] aW off 0 (fun _=>default) (Nat.le_refl _) (fun e he=>by cases he) (fun j d hj=>by simp at hj) (fun j d hj=>by simp at hj)
         cases tok with
         |none=>exact .deep hd
         |some k=>
          obtain ⟨k1,k2,k3⟩:=Ol k rfl
          exact .AE _ _ _ _ _ k1 hd ⟨k2,rfl⟩ (.inl rfl)
       · rw [if_neg l7]
         have Jr:=iH hl l'.toNat
         have hd:cV E.I (.sl none cS (es.drop l'.toNat)) (.slice (some ⟨aW,off+l'.toNat*cS,none⟩) (es.drop l'.toNat).length (cap - l'.toNat)):=by
          refine .sl cS _ aW (off+l'.toNat*cS) _ (fun j=>val (l'.toNat*cS+j)) (by simp;omega) C4 (fun j d hj=>?_) (fun j d hj=>?_)
          · rw [Jr,List.getElem?_drop] at hj
            rw [Nat.add_assoc];exact EN _ d hj
          · rw [Jr,List.getElem?_drop] at hj
            exact I8 _ d hj
         simp only [Option.map_some,Addr.add_lit]
         cases tok with
         |none=>exact .deep hd
         |some k=>
          obtain ⟨k1,k2,k3⟩:=Ol k rfl
          refine .AE _ _ _ _ _ k1 hd ⟨k2,rfl⟩ ?_
          rw [List.length_drop]
          rcases k3 with k3|⟨k3,k4⟩
          · exact .inl (by omega)
          · refine .inr ⟨?_,?_⟩
            · simp only [Nat.sub_mul]
              have:l'.toNat*cS<=es.length*cS:=Nat.mul_le_mul_right _ ZJ
              omega
            · simp only [Nat.sub_mul]
              have:l'.toNat*cS<=cap*cS:=Nat.mul_le_mul_right _ (by omega)
              omega
   · rename_i v QZ
     unfold T.opt at hw
     split at hw
     case h_2=>exact hw.elim
     rename_i h' OK
     split at hw
     case h_2=>exact hw.elim
     rename_i l' qF
     obtain ⟨l9,hw⟩:=hw
     simp only [Bool.and_eq_true,decide_eq_true_eq] at l9
     obtain ⟨⟨c1,c2⟩,c3⟩:=l9
     have b1:=cH (n:=0) (l:=h') QY hf (by rw [QZ];exact OK)
     have b1:∃ k,hi.map a.eval=some (.int k h'):=by
      rcases b1 with ⟨_,q,_⟩|q
      · rw [QZ] at q;cases q
      · exact q
     have b2:=cH QX hf qF
     have hb:=j0 (P:=P) (w:=w) true es.length cap (lo:=lo.map a.eval) (hi:=hi.map a.eval) (l:=l') (h:=h') (.inr b1) (b2.imp (fun q=>⟨q.1,q.2.2⟩) id) c1 c2 (by omega)
     have hlen:h'.toNat - l'.toNat=((es.take h'.toNat).drop l'.toNat).length:=by simp;omega
     refine aG (cJ hv hb) (hc.same hs hw ?_)
     rw [hlen]
     rcases hp with ⟨rfl,rfl,rfl⟩|⟨aW,off,val,rfl,hl,EN,I8,Ol⟩
     · simp only [List.take_nil,List.drop_nil,List.length_nil,Nat.zero_sub]
       exact .deep (.wI _ _)
     · have cQ:∀ e∈es.take h'.toNat,e.length=cS:=fun e he=>hl e (List.mem_of_mem_take he)
       have C4:∀ e∈(es.take h'.toNat).drop l'.toNat,e.length=cS:=fun e he=>cQ e (List.mem_of_mem_drop he)
       by_cases l7:cap=l'.toNat
       · have C9:(es.take h'.toNat).drop l'.toNat=[]:=List.drop_eq_nil_of_le (by simp;omega)
         rw [if_pos l7,l7,Nat.sub_self,C9]
         exact .deep (.sl cS [] aW off 0 (fun _=>default) (Nat.le_refl _) (fun e he=>by cases he) (fun j d hj=>by simp at hj) (fun j d hj=>by simp at hj))
       · rw [if_neg l7]
         have Jr:∀ j d,((es.take h'.toNat).drop l'.toNat).flatten[j]? =some d->es.flatten[l'.toNat*cS+j]? =some d:=by
          intro j d hj
          rw [iH cQ,iG hl,List.getElem?_drop,List.getElem?_take] at hj
          split at hj
          · exact hj
          · cases hj
         simp only [Option.map_some,Addr.add_lit]
         refine .deep (.sl cS _ aW (off+l'.toNat*cS) _ (fun j=>val (l'.toNat*cS+j)) (by simp;omega) C4 (fun j d hj=>?_) (fun j d hj=>?_))
         · rw [Nat.add_assoc];exact EN _ d (Jr j d hj)
         · exact I8 _ d (Jr j d hj)
 · rename_i k cS off len e1
   rw [e1] at r1
   split at hw
   case isFalse=>exact hw.elim
   rename_i xK
   subst xK
   unfold T.opt at hw
   split at hw
   case h_2=>exact hw.elim
   rename_i h' OK
   split at hw
   case h_2=>exact hw.elim
   rename_i l' qF
   obtain ⟨ob,dC,hw⟩:=hw
   dsimp only at hw
   split at hw
   case h_2=>exact hw.elim
   rename_i dB es
   split at hw
   case isFalse=>exact hw.elim
   rename_i xK
   subst xK
   obtain ⟨l9,hw⟩:=hw
   simp only [Bool.and_eq_true,decide_eq_true_eq] at l9
   obtain ⟨⟨c1,c2⟩,c3⟩:=l9
   have b1:=cH QY hf OK
   have b2:=cH QX hf qF
   generalize hv:a.eval x=y at r1
   cases r1 with
   |deep hd=>cases hd
   |ms _ _ _ _ ad cap hk Hn hh zV ha=>
    obtain ⟨hl,cells,ty,fz,q1,q2,q3,q4,q5⟩:=hs.obj k _ dC
    have Jq:=bT hl
    have l7:es.length<=off+cap:=by
     have:es.length*dB<=(off+cap)*dB:=by omega
     exact Nat.le_of_mul_le_mul_right this C2
    have hb:=j0 (P:=P) (w:=w) true len cap (lo:=lo.map a.eval) (hi:=hi.map a.eval) (l:=l') (h:=h') (b1.imp (fun q=>⟨q.1,q.2.2⟩) id) (b2.imp (fun q=>⟨q.1,q.2.2⟩) id) c1 c2 (by omega)
    refine aG (cJ hv hb) (hc.same hs hw ?_)
    have e0:(if cap=l'.toNat then some ad else Option.map (fun x:Addr=>x.add (l'.toNat*dB)) (some ad))=some (if cap=l'.toNat then ad else ad.add (l'.toNat*dB)):=by split<;>rfl
    rw [e0]
    refine .ms _ _ _ _ _ _ hk (by omega) ?_ ?_ ?_
    · rw [<-hh]
      congr 2
      omega
    · split
      · exact zV
      · simp only [Addr.add]
        split<;>exact zV
    · by_cases XC:cap=l'.toNat
      · exact .inl (by omega)
      · rw [if_neg XC]
        refine .inr ?_
        rcases ha with h|h
        · omega
        · rw [h,Addr.add_lit,Nat.add_mul]
          congr 1;omega
 · exact hw.elim
theorem Hw {t el:TypeId} {x y:Operand} {d c:aV} {sz:Nat} (ho:o.op=.indexAddr t x y) (hx:b9 x d=true) (hy:b9 y c=true)
 (hu:P.underlying t=some (.slice el)) (hz:(P.info? el).map (·.size)=some sz)
 (hs:bC E st w) (hf:aJ E N fr a) (hw:(step (.zM sz d c) fr st).wp (aB P) K) (hc:dJ E st w o a next K):o.wp P a w next Q:=by
 have r1:=aH hx hf
 have r2:=aH hy hf
 cases hq:P.info? el with
 |none=>simp [hq] at hz
 |some i=>
 have hi:i.size=sz:=by simpa [hq] using hz
 simp only [step] at hw
 split at hw
 case h_2=>exact hw.elim
 rename_i kd n e2
 rw [e2] at r2
 have r2:=r2.int
 have cJ:∀ {p:Addr} {len cap:Nat},a.eval x=.slice (some p) len cap->0<=n->n<len->(execOp a.eval o).run P w=.ok (.value (.pointer (some (p.add (n.toNat*sz))))) w:=by
  intro p len cap hv h0 h1
  simp [execOp,ho,hv,r2,Instr.indexAt,asIntOf,run_underlying hu,sizeOf,typeInfo,hq,hi,h0,h1]
 split at hw
 · rename_i tok cS es e1
   rw [e1] at r1
   split at hw
   case isFalse=>exact hw.elim
   rename_i xK
   subst xK
   obtain ⟨lO,e,he,hw⟩:=hw
   rw [o4] at lO
   have cQ:n.toNat<es.length:=(List.getElem?_eq_some_iff.1 he).1
   obtain ⟨p,cap,hv,Hn,hp⟩:=r1.WG
   rcases hp with ⟨rfl,rfl,rfl⟩|⟨aW,off,val,rfl,hl,EN,I8,Ol⟩
   · simp at cQ
   · refine aG (cJ hv lO.1 lO.2) (hc.same hs hw ?_)
     rw [Addr.add_lit]
     have Br:e.length=cS:=hl e (List.mem_of_getElem? he)
     have ZK:∀ j d,e[j]? =some d->es.flatten[n.toNat*cS+j]? =some d:=by
      intro j d hj
      have E6:j<cS:=by
       have:=(List.getElem?_eq_some_iff.1 hj).1
       omega
      rw [jX hl he E6];exact hj
     exact .pc e 0 aW (off+n.toNat*cS) (fun j=>val (n.toNat*cS+j)) (fun j d hj=>by rw [Nat.add_assoc];exact EN _ d (ZK j d hj)) (fun j d hj=>I8 _ d (ZK j d hj))
 · rename_i k cS off len e1
   rw [e1] at r1
   split at hw
   case isFalse=>exact hw.elim
   rename_i xK
   subst xK
   obtain ⟨lO,hw⟩:=hw
   rw [o4] at lO
   generalize hv:a.eval x=y at r1
   cases r1 with
   |deep hd=>cases hd
   |ms _ _ _ _ ad cap hk Hn hh zV ha=>
    have ha:ad=⟨(E.μ k).aW,(E.μ k).base+off*cS,none⟩:=by
     rcases ha with h|h
     · omega
     · exact h
    subst ha
    refine aG (cJ hv lO.1 lO.2) (hc.same hs hw ?_)
    rw [Addr.add_lit]
    have:=Rel.pa (E:=E) k cS (off+n.toNat) 0 hk
    rw [Nat.add_mul,Nat.add_zero,<-Nat.add_assoc] at this
    exact this
 · exact hw.elim
def JD (P:Program) (t:TypeId) (e:aV):Bool:=
 match P.underlying t,e with
 |some (.pointer _),.c .dZ=>true
 |some (.slice _),.c .bU=>true
 |some (.map _ _),.c .cY=>true
 |some (.func _ _ _),.c .eA=>true
 |_,_=>false
theorem OL (v:V):aV.ev fr (.c v)=v:=rfl
theorem xM (d:Nat) {t el:TypeId} (hu:P.underlying t=some (.pointer el)) (p:Option Addr) (w:World):(Op.equalIn (d+1) t (.pointer p) (.pointer none)).run P w=.ok p.isNone w:=by
 cases p<;>simp [Op.equalIn,run_underlying hu]
theorem Da (d:Nat) {t kt el:TypeId} (hu:P.underlying t=some (.map kt el)) (p:Option Nat) (w:World):(Op.equalIn (d+1) t (.map p) (.map none)).run P w=.ok p.isNone w:=by
 cases p<;>simp [Op.equalIn,run_underlying hu]
theorem Fl (d:Nat) {t el:TypeId} (hu:P.underlying t=some (.slice el)) (p:Option Addr) (n c:Nat) (w:World):(Op.equalIn (d+1) t (.slice p n c) (.slice none 0 0)).run P w=.ok p.isNone w:=by
 cases p<;>simp [Op.equalIn,run_underlying hu]
theorem AK (d:Nat) {t:TypeId} {x1:Array TypeId} {x2:Array TypeId} {x3:Bool} (hu:P.underlying t=some (.func x1 x2 x3)) (x:Value) {b:Bool} (w:World) (hb:(match x with|.nilFunc=>some true|.func _ _ _=>some false|_=>none)=some b):(Op.equalIn (d+1) t x .nilFunc).run P w=.ok b w:=by
 cases x<;>simp at hb<;>subst hb<;>simp [Op.equalIn,run_underlying hu]
theorem Hx {t:TypeId} {x y:Value} {neg b:Bool} {op:BinOp} (Bw:op=if neg then .neq else .eql) (JE:x matches .pointer _|.slice _ _ _|.map _|.func _ _ _|.nilFunc) (h:(Op.equal t x y).run P w=.ok b w):
 (binOp op t x y).run P w=.ok (.bool (if neg then !b else b)) w:=by
 subst Bw
 cases neg<;>cases x<;>simp at JE<;>simp [binOp,h]
theorem JF {op:BinOp} {t yt:TypeId} {x y:Operand} {neg b:Bool} (ho:o.op=.binOp op t x y yt) (Bw:op=if neg then .neq else .eql) (JE:a.eval x matches .pointer _|.slice _ _ _|.map _|.func _ _ _|.nilFunc)
 (UL:a.eval x=.nilFunc->∀ r,eqGuard op t x y .nilFunc r=pure ())
 (h:(Op.equal t (a.eval x) (a.eval y)).run P w=.ok b w):(execOp a.eval o).run P w=.ok (.value (.bool (if neg then !b else b))) w:=by
 have h1:=Hx Bw JE h
 have hg:eqGuard op t x y (a.eval x) (a.eval y)=pure ():=by
  cases hv:a.eval x<;>rw [hv] at JE<;>simp at JE
  · exact eqGuard_at_pointer _ _ _ _ _ _
  · exact eqGuard_at_slice _ _ _ _ _ _ _ _
  · exact eqGuard_at_map _ _ _ _ _ _
  · exact eqGuard_at_func _ _ _ _ _ _ _ _
  · exact UL hv _
 exact dQ ho hg h1
theorem JG {op:BinOp} {t yt:TypeId} {x y:Operand} {d e:aV} {neg:Bool} (ho:o.op=.binOp op t x y yt) (Bw:op=if neg then .neq else .eql) (hx:b9 x d=true) (hy:b9 y e=true) (hn:JD P t e=true)
 (hs:bC E st w) (hf:aJ E N fr a) (hw:(step (.RH neg d e) fr st).wp (aB P) K) (hc:dJ E st w o a next K):o.wp P a w next Q:=by
 have r1:=aH hx hf
 have r2:=aH hy hf
 have fin:∀ b:Bool,(Op.equal t (a.eval x) (a.eval y)).run P w=.ok b w->(a.eval x matches .pointer _|.slice _ _ _|.map _|.func _ _ _|.nilFunc)->K (.b (if neg then !b else b),st)->o.wp P a w next Q:=by
  intro b h hm hk
  exact aG (JF ho Bw hm (fun _ r=>by cases op<;>rfl) h) (hc.same hs hk (.deep (.b _)))
 have t1:(if neg then !true else true)=!neg:=by cases neg<;>rfl
 have t2:(if neg then !false else false)=neg:=by cases neg<;>rfl
 unfold JD at hn
 split at hn
 · rename_i el hu
   have EO:a.eval y=.pointer none:=by
    generalize a.eval y=z at r2
    cases r2 with
    |deep hd=>cases hd
    |dZ=>rfl
   simp only [step,oZ,OL] at hw
   split at hw
   · rename_i e1
     rw [e1] at r1
     generalize hv:a.eval x=z at r1
     cases r1 with
     |deep hd=>cases hd
     |dZ=>exact fin true (by rw [hv,EO];exact xM 9999 hu _ w) (by simp [hv]) (by rw [t1];exact hw)
   · rename_i e1
     rw [e1] at r1
     generalize hv:a.eval x=z at r1
     cases r1 with
     |deep hd=>cases hd
     |p=>exact fin false (by rw [hv,EO];exact xM 9999 hu _ w) (by simp [hv]) (by rw [t2];exact hw)
   · rename_i e1
     rw [e1] at r1
     generalize hv:a.eval x=z at r1
     cases r1 with
     |deep hd=>cases hd
     |pa=>exact fin false (by rw [hv,EO];exact xM 9999 hu _ w) (by simp [hv]) (by rw [t2];exact hw)
   · exact hw.elim
 · rename_i el hu
   have EO:a.eval y=.slice none 0 0:=r2.AJ
   have CO:∀ p n c,a.eval x=.slice p n c->(Op.equal t (a.eval x) (a.eval y)).run P w=.ok p.isNone w:=by
    intro p n c h
    rw [h,EO]
    exact Fl 9999 hu _ _ _ w
   simp only [step,oZ,OL] at hw
   split at hw
   · rename_i e1
     rw [e1] at r1
     exact fin true (CO _ _ _ r1.AJ) (by simp [r1.AJ]) (by rw [t1];exact hw)
   · rename_i tok sz es e1
     rw [e1] at r1
     obtain ⟨p,cap,hv,Hn,hp⟩:=r1.WG
     have hm:a.eval x matches .pointer _|.slice _ _ _|.map _|.func _ _ _|.nilFunc:=by simp [hv]
     split at hw
     · rename_i k
       rcases hp with ⟨_,_,h⟩|⟨aW,off,val,rfl,_⟩
       · cases h
       · exact fin false (CO _ _ _ hv) hm (by rw [t2];exact hw)
     · by_cases T6:es.isEmpty=true
       · have hw:=hw.1 T6
         exact fin _ (CO _ _ _ hv) hm (hw _)
       · have hw:=hw.2 (by simpa using T6)
         rcases hp with ⟨h,_⟩|⟨aW,off,val,rfl,_⟩
         · subst h;simp at T6
         · exact fin false (CO _ _ _ hv) hm (by rw [t2];exact hw)
   · rename_i k sz off len e1
     rw [e1] at r1
     generalize hv:a.eval x=z at r1
     cases r1 with
     |deep hd=>cases hd
     |ms=>exact fin false (CO _ _ _ hv) (by simp [hv]) (by rw [t2];exact hw)
   · exact hw.elim
 · rename_i kt el hu
   have EO:a.eval y=.map none:=by
    generalize a.eval y=z at r2
    cases r2 with
    |deep hd=>cases hd
    |cY=>rfl
   simp only [step,oZ,OL] at hw
   split at hw
   · rename_i e1
     rw [e1] at r1
     generalize hv:a.eval x=z at r1
     cases r1 with
     |deep hd=>cases hd
     |cY=>exact fin true (by rw [hv,EO];exact Da 9999 hu _ w) (by simp [hv]) (by rw [t1];exact hw)
   · rename_i e1
     rw [e1] at r1
     generalize hv:a.eval x=z at r1
     cases r1 with
     |deep hd=>cases hd
     |m=>exact fin false (by rw [hv,EO];exact Da 9999 hu _ w) (by simp [hv]) (by rw [t2];exact hw)
   · exact hw.elim
 · rename_i x1 x2 x3 hu
   have EO:a.eval y=.nilFunc:=by
    generalize a.eval y=z at r2
    cases r2 with
    |deep hd=>cases hd
    |eA=>rfl
   simp only [step,oZ,OL] at hw
   split at hw
   · rename_i e1
     rw [e1] at r1
     generalize hv:a.eval x=z at r1
     cases r1 with
     |deep hd=>cases hd
     |eA=>exact fin true (by rw [hv,EO];exact AK 9999 hu _ w rfl) (by simp [hv]) (by rw [t1];exact hw)
   · rename_i e1
     rw [e1] at r1
     generalize hv:a.eval x=z at r1
     cases r1 with
     |deep hd=>cases hd
     |fn=>exact fin false (by rw [hv,EO];exact AK 9999 hu _ w rfl) (by simp [hv]) (by rw [t2];exact hw)
   · exact hw.elim
 · cases hn
end
open Go
section
variable {P:Program} {o:Oper} {a:Act} {E:Env} {N:Nat} {st:St} {w:World} {fr:Fr} {next:Act->World->Prop} {Q:Exit->Act->World->Prop} {K:R->Prop}
theorem Db (len cap:Nat) {lo hi mx:Option Value} {l h m:Int} (hh:∃ k,hi=some (.int k h)) (hm:∃ k,mx=some (.int k m)) (hl:(lo=none/\l=0)\/∃ k,lo=some (.int k l))
 (h0:0<=l) (h1:l<=h) (h2:h<=m) (h3:m<=cap):(Instr.sliceBounds true len cap lo hi mx).run P w=.ok (l.toNat,h.toNat,m.toNat) w:=by
 have c0:0<=m:=by omega
 have c1:0<=h:=by omega
 have d1:max m 0=m:=by omega
 have d2:max h 0=h:=by omega
 obtain ⟨k,rfl⟩:=hh
 obtain ⟨k',rfl⟩:=hm
 have n1:¬m<h:=by omega
 have n2:¬h<l:=by omega
 rcases hl with ⟨rfl,rfl⟩|⟨k2,rfl⟩<;>simp [Instr.sliceBounds,run_sliceBound,h0,h1,h2,h3,c0,c1,d1,d2]
theorem Fm {t el:TypeId} {x:Operand} {lo hi mx:Option Operand} {d:aV} {l h m:Option aV} {sz:Nat} (ho:o.op=.slice t x lo hi mx) (hu:P.underlying t=some (.slice el)) (hz:(P.info? el).map (·.size)=some sz) (C2:0<sz)
 (hx:b9 x d=true) (QX:m8 lo l=true) (QY:m8 hi h=true) (XB:m8 mx m=true) (hhs:h.isSome=true) (XD:m.isSome=true)
 (hs:bC E st w) (hf:aJ E N fr a) (hw:(step (.mY sz d l h m) fr st).wp (aB P) K) (hc:dJ E st w o a next K):o.wp P a w next Q:=by
 have r1:=aH hx hf
 cases hq:P.info? el with
 |none=>simp [hq] at hz
 |some i=>
 have RU:i.size=sz:=by simpa [hq] using hz
 obtain ⟨h1,rfl⟩:=Option.isSome_iff_exists.1 hhs
 obtain ⟨m1,rfl⟩:=Option.isSome_iff_exists.1 XD
 simp only [step] at hw
 split at hw
 · exact hw.elim
 · split at hw
   · exact hw.elim
   · exact hw.elim
 · rename_i k cS off len e1
   rw [e1] at r1
   split at hw
   case isFalse=>exact hw.elim
   rename_i xK
   subst xK
   unfold T.opt at hw
   split at hw
   case h_2=>exact hw.elim
   rename_i h' OK
   split at hw
   case h_2=>exact hw.elim
   rename_i l' qF
   obtain ⟨ob,dC,hw⟩:=hw
   dsimp only at hw
   split at hw
   case h_2=>exact hw.elim
   rename_i dB es
   split at hw
   case isFalse=>exact hw.elim
   rename_i xK
   subst xK
   split at hw
   case h_2=>exact hw.elim
   rename_i m' R4
   obtain ⟨l9,hw⟩:=hw
   simp only [Bool.and_eq_true,decide_eq_true_eq] at l9
   obtain ⟨⟨⟨c1,c2⟩,c3⟩,c4⟩:=l9
   have b1:∃ k,hi.map a.eval=some (.int k h'):=by
    rcases cH (n:=len) QY hf OK with ⟨_,q,_⟩|q
    · cases q
    · exact q
   have b3:∃ k,mx.map a.eval=some (.int k m'):=by
    rcases cH (n:=0) (l:=m') XB hf R4 with ⟨_,q,_⟩|q
    · cases q
    · exact q
   have b2:=cH QX hf qF
   generalize hv:a.eval x=y at r1
   cases r1 with
   |deep hd=>cases hd
   |ms _ _ _ _ ad cap hk Hn hh zV ha=>
    obtain ⟨hl,cells,ty,fz,q1,q2,q3,q4,q5⟩:=hs.obj k _ dC
    have Jq:=bT hl
    have l7:es.length<=off+cap:=by
     have:es.length*dB<=(off+cap)*dB:=by omega
     exact Nat.le_of_mul_le_mul_right this C2
    have hb:=Db (P:=P) (w:=w) len cap (lo:=lo.map a.eval) (hi:=hi.map a.eval) (mx:=mx.map a.eval) (l:=l') (h:=h') (m:=m') b1 b3 (b2.imp (fun q=>⟨q.1,q.2.2⟩) id) c1 c2 c3 (by omega)
    have cJ:(execOp a.eval o).run P w=.ok (.value (.slice (if m'.toNat=l'.toNat then some ad else (some ad).map (·.add (l'.toNat*dB))) (h'.toNat - l'.toNat) (m'.toNat - l'.toNat))) w:=by
     simp [execOp,ho,hv,Instr.sliceAt,Instr.slice,run_underlying hu,hb,sizeOf,typeInfo,hq,RU]
    exact aG cJ (hc.same hs hw (.a8 _))
 · exact hw.elim
end
end Go.Eng
