/-
Each operation of the model does what the abstract step says (part five: new objects).
-/
import Derived.Test.YtmfelikepmmjkaaGreatX02
set_option linter.unusedVariables false
set_option linter.unusedSimpArgs false
namespace Go.Eng
open Go
structure rL (w w':World):Prop where
 os:w'.os=w.os
 out:w'.output=w.output
 tape:w'.tape=w.tape
theorem Env.JF (E:Env) (g g':Bool) (L:Loc) (J:AH):(E.Ju g').Le ((E.push g L J).Ju g'):=by
 cases g' with
 |true=>exact Env.DZ (Env.rJ E g L J)
 |false=>exact Env.rJ E g L J
theorem Env.GH (E F:Env) (g:Bool):F.at (E.aO g)=F.Ju g:=by cases g<;>rfl
section
variable {E:Env} {st:St} {w w':World}
theorem cH.newRow {z:Nat} (h:cH E st w) (gone:Option Key) (g:Bool) {cells:Array Value} {t:TypeId} {fz:Nat×Nat} (Lv:tU z fz cells.size) (hh:w'.heap=w.heap.push (.cells cells t fz)) (ho:rL w w')
 (ob:Obj) (cs:List V) (eO:∀ F (L:Loc),L.base=0->iH z F w' L cs->Holds F w' L ob) (hl:cs.length<=cells.size)
 (hr:∀ (j:Nat) (v:V),cs[j]? =some v->∃ x,cells[j]? =some x/\Rel (E.Ju g) v x/\x.oneCell'=true):
 ∃ E',cH E' ((match gone with|some k=>st.remove k|none=>st).push g ob) w'/\Ext E st w E' ((match gone with|some k=>st.remove k|none=>st).push g ob) w'/\
  E'.has (st.aO g)/\E'.μ (st.aO g)=⟨w.heap.size,0,cells.size⟩:=by
 have dR:iH z ((E.push g ⟨w.heap.size,0,cells.size⟩ fun b j=>if b=w.heap.size then (fun _=>none) j else none).at (E.aO g)) w' ⟨w.heap.size,0,cells.size⟩ cs:=by
  refine ⟨cells,t,fz,by simp [hh],Lv,by simpa using hl,Nat.le_refl _,fun j v hj=>?_⟩
  obtain ⟨x,hx,xU,h1⟩:=hr j v hj
  refine ⟨x,by simpa using hx,?_,h1⟩
  rw [Env.GH]
  exact xU.mono (Env.JF _ _ _ _ _)
 obtain ⟨h1,h2⟩:=h.fresh gone g 0 cells.size (fun _=>none) ob _ hh ho.os ho.out ho.tape (fun j x hx=>by cases hx) (eO _ _ rfl dR)
 refine ⟨_,h1,h2,?_,?_⟩
 · rw [h.aO];exact Env.fG _ _ _ _
 · rw [h.aO];exact Env.gE _ _ _ _
theorem cH.Xt {z:Nat} (h:cH E st w) (gone:Option Key) (g:Bool) {cells:Array Value} {t:TypeId} {fz:Nat×Nat} (Lv:tU z fz cells.size) (hh:w'.heap=w.heap.push (.cells cells t fz)) (ho:rL w w')
 (n:Nat) (hn:n<=cells.size):
 ∃ E',cH E' ((match gone with|some k=>st.remove k|none=>st).push g .spare) w'/\Ext E st w E' ((match gone with|some k=>st.remove k|none=>st).push g .spare) w'/\
  E'.has (st.aO g)/\E'.μ (st.aO g)=⟨w.heap.size,n,cells.size⟩/\∀ j,j<n->E'.I w.heap.size j=cells[j]? :=by
 have hold:∀ j,E.I w.heap.size j=none:=by
  intro j
  cases hI:E.I w.heap.size j with
  |none=>rfl
  |some x=>have:=h.j6 _ _ _ hI;simp [bM] at this
 have dR:iH 1 ((E.push g ⟨w.heap.size,n,cells.size⟩ fun b j=>if b=w.heap.size then (fun j=>if j<n then cells[j]? else none) j else none).at (E.aO g)) w' ⟨w.heap.size,n,cells.size⟩ []:=
  ⟨cells,t,fz,by simp [hh],Lv.one,by simpa using hn,Nat.le_refl _,fun j v hj=>by simp at hj⟩
 obtain ⟨h1,h2⟩:=h.fresh gone g n cells.size (fun j=>if j<n then cells[j]? else none) .spare _ hh ho.os ho.out ho.tape (fun j x hx=>by
  split at hx
  · exact ⟨⟨_,_,_,rfl,hx⟩,by omega⟩
  · cases hx) dR
 refine ⟨_,h1,h2,?_,?_,?_⟩
 · rw [h.aO];exact Env.fG _ _ _ _
 · rw [h.aO];exact Env.gE _ _ _ _
 · intro j hj
   simp [Env.push,hold,hj]
theorem cH.Xu (h:cH E st w) (g:Bool) (kd:Option IntKind):∃ E',cH E' (st.push g (.mp kd [])) (w.alloc (.map #[] 0))/\Ext E st w E' (st.push g (.mp kd [])) (w.alloc (.map #[] 0))/\
 E'.has (st.aO g)/\(E'.μ (st.aO g)).bS=w.heap.size:=by
 obtain ⟨h1,h2⟩:=h.fresh (w':=w.alloc (.map #[] 0)) none g 0 0 (fun _=>none) (.mp kd []) (.map #[] 0) rfl rfl rfl rfl (fun j x hx=>by cases hx)
  ⟨#[],0,(by show (w.heap.push _)[w.heap.size]? =_;simp),rfl,(fun j q e hq=>by simp at hq),⟨fun x hx=>by simp at hx,by simp⟩⟩
 refine ⟨_,h1,h2,?_,?_⟩
 · rw [h.aO];exact Env.fG _ _ _ _
 · rw [h.aO];rw [Env.gE]
end
def mB (P:Program) (t:TypeId) (zs:List V):Bool:=
 match P.info? t with
 |some i=>match i.zero with
  |some z=>decide (z.cells.size=zs.length)&&decide (i.size=zs.length)&&z.cells.all (·.oneCell')&&(z.cells.toList.zip zs).all fun q=>rK 4 q.1 q.2
  |none=>false
 |none=>false
theorem jS {P:Program} {t:TypeId} {zs:List V} (h:mB P t zs=true):
 ∃ i z,P.info? t=some i/\i.zero=some z/\i.size=zs.length/\(∀ E,eT E zs z.cells)/\z.cells.size=zs.length/\∀ (j:Nat) (x:Value),z.cells[j]? =some x->x.oneCell'=true:=by
 unfold mB at h
 split at h
 · rename_i i hi
   split at h
   · rename_i z hz
     simp only [Bool.and_eq_true,decide_eq_true_eq] at h
     refine ⟨i,z,hi,hz,h.1.1.2,fun E=>⟨h.1.1.1,fun j v x hj hx=>lS (HY h.2 (by rw [Array.getElem?_toList];exact hx) hj) E⟩,h.1.1.1,?_⟩
     intro j x hx
     exact (Array.all_eq_true_iff_forall_mem.1 h.1.2) x (Array.mem_of_getElem? hx)
   · cases h
 · cases h
theorem nR {P:Program} {t:TypeId} {i:TypeInfo} {z:Value} (hi:P.info? t=some i) (hz:i.zero=some z) (w:World):(zeroValue t).run P w=.ok z w:=by
 simp [zeroValue,typeInfo,hi,hz]
section
variable {P:Program} {o:Oper} {a:Act} {E:Env} {N:Nat} {st:St} {w:World} {fr:Fr} {next:Act->World->Prop} {Q:Exit->Act->World->Prop} {K:R->Prop}
theorem LW {t:TypeId} {g:Bool} {zero:List V} (ho:o.op=.alloc t) (hz:mB P t zero=true) (hs:cH E st w)
 (hw:(step (.alloc g zero) fr st).wp (aC P) K) (hc:fV E st w o a next K):o.wp P a w next Q:=by
 obtain ⟨i,z,hi,D9,lI,hr,hl,h1⟩:=jS hz
 obtain ⟨E',s1,s2,s3,s4⟩:=hs.newRow (z:=1) (w':=w.alloc (.cells z.cells t)) none g (.inl rfl) rfl ⟨rfl,rfl,rfl⟩ (.cs zero) zero (fun _ _ h0 h=>⟨h0,h⟩) (by omega)
  (fun j v hj=>let ⟨x,hx,xU⟩:=(hr (E.Ju g)).get hj;⟨x,hx,xU,h1 j x hx⟩)
 refine aX (x:=.pointer (some ⟨w.heap.size,0,none⟩)) ?_ (hc _ _ E' _ _ hw s1 s2 ?_)
 · simp [execOp,ho,Instr.alloc,nR hi D9,newVar,newRow]
 · have:=Rel.p (E:=E') (st.aO g) 0 s3
   rw [s4] at this
   exact this
theorem Q9 {t:TypeId} {x:Operand} {d:bL} {g:Bool} (ho:o.op=.box t x) (hx:eL x d=true) (hs:cH E st w) (hf:bB E N fr a)
 (hw:(step (.box g d) fr st).wp (aC P) K) (hc:fV E st w o a next K):o.wp P a w next Q:=by
 have h1:=bG hx hf
 simp only [step] at hw
 split at hw
 case h_2=>exact hw.elim
 rename_i Xr
 unfold T.opt at hw
 split at hw
 case h_2=>exact hw.elim
 rename_i c zT
 obtain ⟨mV,iW⟩:=BL Xr h1
 have vH:=vR zT mV
 have lI:(a.eval x).cells.size=c.length:=vH.1
 obtain ⟨E',s1,s2,s3,s4⟩:=hs.newRow (w':=w.alloc (.cells (a.eval x).cells t)) none g (.inl rfl) rfl ⟨rfl,rfl,rfl⟩ (.cs c) c (fun _ _ h0 h=>⟨h0,h⟩) (by omega)
  (fun j v hj=>let ⟨x,hx,xU⟩:=vH.get hj;⟨x,hx,xU,iW x (by rw [Array.mem_toList_iff];exact Array.mem_of_getElem? hx)⟩)
 refine aX (x:=.pointer (some ⟨w.heap.size,0,none⟩)) ?_ (hc _ _ E' _ _ hw s1 s2 ?_)
 · simp [execOp,ho,Instr.box,newVar,newRow]
 · have:=Rel.p (E:=E') (st.aO g) 0 s3
   rw [s4] at this
   exact this
theorem LX {t:TypeId} {g:Bool} {kd:Option IntKind} (ho:o.op=.makeMap t none) (hs:cH E st w)
 (hw:(step (.DY g kd) fr st).wp (aC P) K) (hc:fV E st w o a next K):o.wp P a w next Q:=by
 obtain ⟨E',s1,s2,s3,s4⟩:=hs.Xu g kd
 refine aX (x:=.map (some w.heap.size)) ?_ (hc _ _ E' _ _ hw s1 s2 ?_)
 · simp [execOp,ho,Instr.makeMap]
 · have:=Rel.m (E:=E') (st.aO g) s3
   rw [s4] at this
   exact this
def xW (P:Program) (fs:Array Field):List (Nat×Operand)->List (Nat×Nat×bL)->Bool
 |[],[]=>true
 |(i,x)::r,(off,sz,d)::q=>(match fs[i]? with
    |some f=>decide (f.offset=off)&&(P.info? f.type).map (·.size)==some sz
    |none=>false)&&eL x d&&xW P fs r q
 |_,_=>false
def sV (sz:Nat):List (Nat×Operand)->List (Nat×Nat×bL)->Bool
 |[],[]=>true
 |(i,x)::r,(off,eD,d)::q=>decide (off=i*sz)&&decide (eD=sz)&&eL x d&&sV sz r q
 |_,_=>false
theorem GI (cs:Array Value) (off:Nat):∀ (l:List Value) (k:Nat) (acc:Array Value),(l.zipIdx k).foldl (fun (cs:Array Value) (q:Value×Nat)=>cs.setIfInBounds (off+q.2) q.1) acc=sU acc (off+k) l
 |[],_,_=>rfl
 |v::r,k,acc=>by
  rw [List.zipIdx_cons,List.foldl_cons,GI cs off r]
  rfl
theorem Ra (v:Array Value) (off:Nat) (acc:Array Value):v.zipIdx.foldl (fun (cs:Array Value) (q:Value×Nat)=>cs.setIfInBounds (off+q.2) q.1) acc=sU acc off v.toList:=by
 rw [<-Array.foldl_toList,Array.toList_zipIdx,GI acc off v.toList 0 acc,Nat.add_zero]
theorem aaG {cs:List V} {xs:Array Value} (hr:eT E cs xs) (h1:∀ (j:Nat) (x:Value),xs[j]? =some x->x.oneCell'=true) {off:Nat} {vs:List V} {ys:Array Value} (hv:eT E vs ys) (hy:∀ y∈ys.toList,y.oneCell'=true)
 (cY:off+vs.length<=cs.length):eT E (dT cs off vs) (sU xs off ys.toList)/\∀ (j:Nat) (x:Value),(sU xs off ys.toList)[j]? =some x->x.oneCell'=true:=by
 have hl:ys.toList.length=vs.length:=by simpa using hv.1
 have hs:=hr.1
 refine ⟨⟨by rw [jP,jQ,hs],fun j v x hj hx=>?_⟩,fun j x hx=>?_⟩
 · rw [jR _ _ _ _ cY] at hj
   rw [nB _ _ _ _ (by omega)] at hx
   by_cases hc:off<=j/\j<off+vs.length
   · rw [if_pos hc] at hj
     rw [if_pos (by omega)] at hx
     exact hv.2 _ v x hj (by simpa using hx)
   · rw [if_neg hc] at hj
     rw [if_neg (by omega)] at hx
     exact hr.2 _ v x hj hx
 · rw [nB _ _ _ _ (by omega)] at hx
   by_cases hc:off<=j/\j<off+ys.toList.length
   · rw [if_pos hc] at hx
     exact hy x (List.mem_of_getElem? hx)
   · rw [if_neg hc] at hx
     exact h1 j x hx
theorem Ea (place:Nat->Option (Nat×Nat)):∀ (_ps:List (Nat×V)) (qs:List (Nat×Nat×V)) (xs:List (Nat×Value)) (cs OZ:List V) (ys:Array Value),
 lR cs qs=some OZ->eT E cs ys->(∀ (j:Nat) (x:Value),ys[j]? =some x->x.oneCell'=true)->
 qs.length=xs.length->(∀ (j:Nat) (q:Nat×Nat×V) (x:Nat×Value),qs[j]? =some q->xs[j]? =some x->place x.1=some (q.1,q.2.1)/\Rel E q.2.2 x.2)->
 ∃ zs,Instr.fill place ys xs=some zs/\eT E OZ zs/\∀ (j:Nat) (x:Value),zs[j]? =some x->x.oneCell'=true:=by
 intro ps qs
 induction qs with
 |nil=>
  intro xs cs OZ ys h hr h1 hl _
  simp only [lR,Option.some.injEq] at h
  subst h
  have:xs=[]:=List.eq_nil_of_length_eq_zero hl.symm
  subst this
  exact ⟨ys,rfl,hr,h1⟩
 |cons q r ih=>
  obtain ⟨off,sz,v⟩:=q
  intro xs cs OZ ys h hr h1 hl hp
  match xs,hl with
  |(i,x)::xr,hl=>
  simp only [lR] at h
  split at h
  case isFalse=>cases h
  rename_i hc
  obtain ⟨mY,lI,cY⟩:=hc
  obtain ⟨xY,vH⟩:=hp 0 _ _ rfl rfl
  obtain ⟨mV,iW⟩:=BL mY vH
  have O0:x.cells.size=sz:=by rw [mV.1];exact lI
  have hys:ys.size=cs.length:=hr.1
  obtain ⟨Dt,Xv⟩:=aaG hr h1 mV iW (off:=off) (by omega)
  obtain ⟨zs,GF,Jt,Xw⟩:=ih xr _ OZ _ h Dt Xv (by simpa using hl) (fun j q y hq hy=>hp (j+1) q y (by simpa using hq) (by simpa using hy))
  refine ⟨zs,?_,Jt,Xw⟩
  simp only at xY
  simp only [Instr.fill,xY]
  rw [if_neg (by simp [O0];omega)]
  rw [<-GF]
  congr 1
  exact Ra _ _ _
theorem zA {fs:Array Field} (hf:bB E N fr a):∀ {ps:List (Nat×Operand)} {qs:List (Nat×Nat×bL)},xW P fs ps qs=true->
 (eE fr qs).length=ps.length/\∀ (j:Nat) (q:Nat×Nat×V) (p:Nat×Operand),(eE fr qs)[j]? =some q->ps[j]? =some p->(∃ f:Field,fs[p.1]? =some f/\f.offset=q.1/\(P.info? f.type).map (·.size)=some q.2.1)/\Rel E q.2.2 (a.eval p.2)
 |[],[],_=>⟨rfl,fun j q p hq=>by simp [eE] at hq⟩
 |(i,x)::r,(off,sz,d)::q,h=>by
  simp only [xW,Bool.and_eq_true] at h
  obtain ⟨⟨h1,h2⟩,h3⟩:=h
  obtain ⟨l1,l2⟩:=zA hf h3
  refine ⟨by simp [eE,l1],fun j y p hy hp=>?_⟩
  cases j with
  |zero=>
   simp [eE] at hy hp
   subst hy;subst hp
   refine ⟨?_,bG h2 hf⟩
   split at h1
   · rename_i f Az
     simp only [Bool.and_eq_true,decide_eq_true_eq,beq_iff_eq] at h1
     exact ⟨f,Az,h1.1,h1.2⟩
   · cases h1
  |succ j=>exact l2 j y p (by simpa [eE] using hy) (by simpa using hp)
 |[],_::_,h=>by cases h
 |(_,_)::_,[],h=>by simp [xW] at h
theorem vT {sz:Nat} (hf:bB E N fr a):∀ {ps:List (Nat×Operand)} {qs:List (Nat×Nat×bL)},sV sz ps qs=true->
 (eE fr qs).length=ps.length/\∀ (j:Nat) (q:Nat×Nat×V) (p:Nat×Operand),(eE fr qs)[j]? =some q->ps[j]? =some p->(q.1=p.1*sz/\q.2.1=sz)/\Rel E q.2.2 (a.eval p.2)
 |[],[],_=>⟨rfl,fun j q p hq=>by simp [eE] at hq⟩
 |(i,x)::r,(off,eD,d)::q,h=>by
  simp only [sV,Bool.and_eq_true,decide_eq_true_eq] at h
  obtain ⟨⟨⟨h0,h1⟩,h2⟩,h3⟩:=h
  obtain ⟨l1,l2⟩:=vT hf h3
  refine ⟨by simp [eE,l1],fun j y p hy hp=>?_⟩
  cases j with
  |zero=>
   simp [eE] at hy hp
   subst hy;subst hp
   exact ⟨⟨h0,h1⟩,bG h2 hf⟩
  |succ j=>exact l2 j y p (by simpa [eE] using hy) (by simpa using hp)
 |[],_::_,h=>by cases h
 |(_,_)::_,[],h=>by simp [sV] at h
theorem mapM_ok {α β:Type} {f:α->Sem β} {g:α->β}:∀ (l:List α),(∀ x∈l,(f x).run P w=.ok (g x) w)->(l.mapM f).run P w=.ok (l.map g) w
 |[],_=>rfl
 |x::r,h=>by
  have h1:=h x (.head _)
  have h2:=mapM_ok r (fun y hy=>h y (.tail _ hy))
  rw [List.mapM_cons]
  simp only [Sem.run_bind,h1,h2,Result.andThen_ok,Sem.run_pure,List.map_cons]
theorem Rb {α β:Type} {f:α->Sem β} {g:α->β} (l:Array α) (h:∀ x∈l.toList,(f x).run P w=.ok (g x) w):(l.mapM f).run P w=.ok (l.map g) w:=by
 have:=mapM_ok (P:=P) (w:=w) l.toList h
 cases l with
 |mk l=>
  rw [List.mapM_toArray]
  simp only at this
  rw [map_eq_pure_bind]
  simp only [Sem.run_bind,this,Result.andThen_ok,Sem.run_pure]
  simp
theorem LY {t:TypeId} {ps:Array (Nat×Operand)} {qs:List (Nat×Nat×bL)} {zero:List V} {fs:Array Field} (ho:o.op=.build t ps) (hz:mB P t zero=true) (hu:P.underlying t=some (.struct fs))
 (fH:(fs.toList.all fun f=>(P.info? f.type).isSome)=true) (hp:xW P fs ps.toList qs=true) (hs:cH E st w) (hf:bB E N fr a)
 (hw:(step (.Ul zero qs) fr st).wp (aC P) K) (hc:fV E st w o a next K):o.wp P a w next Q:=by
 obtain ⟨i,z,hi,D9,lI,hr,hl,h1⟩:=jS hz
 simp only [step] at hw
 unfold T.opt at hw
 split at hw
 case h_2=>exact hw.elim
 rename_i OZ Xx
 obtain ⟨l1,l2⟩:=zA (P:=P) hf hp
 obtain ⟨zs,GF,Jt,Xw⟩:=Ea (E:=E) (fun k=>(fs.map fun f=>(f.offset,P.cellsOf f.type))[k]?) [] (eE fr qs) (ps.toList.map fun q=>(q.1,a.eval q.2)) zero OZ z.cells Xx (hr E) h1 (by simp [l1]) (fun j q x hq hx=>by
  rw [List.getElem?_map] at hx
  cases Rc:ps.toList[j]? with
  |none=>rw [Rc] at hx;cases hx
  |some p=>
   rw [Rc] at hx
   simp only [Option.map_some,Option.some.injEq] at hx
   subst hx
   obtain ⟨⟨f,Az,LS,UR⟩,iX⟩:=l2 j q p hq Rc
   refine ⟨?_,iX⟩
   simp only [Array.getElem?_map,Az,Option.map_some,Program.cellsOf,LS]
   cases hq2:P.info? f.type with
   |none=>simp [hq2] at UR
   |some i2=>
    simp [hq2] at UR
    simp [UR])
 have hm:(fs.mapM fun f=>do pure (f.offset,<-sizeOf f.type):Sem (Array (Nat×Nat))).run P w=.ok (fs.map fun f=>(f.offset,P.cellsOf f.type)) w:=by
  refine Rb fs fun f We=>?_
  have:=List.all_eq_true.1 fH f We
  obtain ⟨i2,Ny⟩:=Option.isSome_iff_exists.1 this
  simp [sizeOf,typeInfo,Ny,Program.cellsOf]
 refine aX (x:=.agg zs) ?_ (hc.same hs hw (.agg _ _ Jt.1 Xw Jt.2))
 have H2:(ps.map fun (q:Nat×Operand)=>(q.1,a.eval q.2)).toList=ps.toList.map fun q=>(q.1,a.eval q.2):=by simp
 simp only [execOp,ho,Instr.build,Sem.run_bind,nR hi D9,run_underlying hu,Result.andThen_ok,hm]
 simp only [H2,GF,Sem.run_pure,Result.andThen_ok]
theorem LZ {t e:TypeId} {n sz:Nat} {ps:Array (Nat×Operand)} {qs:List (Nat×Nat×bL)} {zero:List V} (ho:o.op=.build t ps) (hz:mB P t zero=true) (hu:P.underlying t=some (.array n e))
 (Re:(P.info? e).map (·.size)=some sz) (hp:sV sz ps.toList qs=true) (hs:cH E st w) (hf:bB E N fr a)
 (hw:(step (.Ul zero qs) fr st).wp (aC P) K) (hc:fV E st w o a next K):o.wp P a w next Q:=by
 obtain ⟨i,z,hi,D9,lI,hr,hl,h1⟩:=jS hz
 simp only [step] at hw
 unfold T.opt at hw
 split at hw
 case h_2=>exact hw.elim
 rename_i OZ Xx
 obtain ⟨l1,l2⟩:=vT hf hp
 obtain ⟨zs,GF,Jt,Xw⟩:=Ea (E:=E) (fun k=>some (k*sz,sz)) [] (eE fr qs) (ps.toList.map fun q=>(q.1,a.eval q.2)) zero OZ z.cells Xx (hr E) h1 (by simp [l1]) (fun j q x hq hx=>by
  rw [List.getElem?_map] at hx
  cases Rc:ps.toList[j]? with
  |none=>rw [Rc] at hx;cases hx
  |some p=>
   rw [Rc] at hx
   simp only [Option.map_some,Option.some.injEq] at hx
   subst hx
   obtain ⟨⟨LS,UR⟩,iX⟩:=l2 j q p hq Rc
   exact ⟨by simp [LS,UR],iX⟩)
 cases hq:P.info? e with
 |none=>simp [hq] at Re
 |some i2=>
 have Ny:i2.size=sz:=by simpa [hq] using Re
 refine aX (x:=.agg zs) ?_ (hc.same hs hw (.agg _ _ Jt.1 Xw Jt.2))
 have H2:(ps.map fun (q:Nat×Operand)=>(q.1,a.eval q.2)).toList=ps.toList.map fun q=>(q.1,a.eval q.2):=by simp
 simp only [execOp,ho,Instr.build,Sem.run_bind,nR hi D9,run_underlying hu,Result.andThen_ok]
 simp only [sizeOf,typeInfo,program,H2]
 simp [GF,Sem.run,hq,Ny]
end
open Go
theorem AL {E:Env} {v d:V} {x:Value} (h:v.deep=some d) (hr:Rel E v x):fF E.I d x:=by
 unfold V.deep at h
 split at h<;>simp only [Option.some.injEq,reduceCtorEq] at h<;>subst h
 all_goals (cases hr)
 all_goals (first|assumption|skip)
 all_goals (rename_i hd;first|exact hd|(cases hd<;>first|exact .nW _|exact .LO _ _ ‹_›|exact .sl _ _ _ _ _ _ ‹_› ‹_› ‹_› ‹_›))
theorem AM:∀ {l r l' r':List V},rF l=some l'->rF r=some r'->rF (l++r)=some (l'++r')
 |[],r,l',r',h,g=>by simp only [rF,Option.some.injEq] at h;subst h;exact g
 |v::l,r,l',r',h,g=>by
  simp only [rF] at h
  split at h
  · rename_i x y hx hy
    simp only [Option.some.injEq] at h
    subst h
    simp only [List.cons_append,rF,hx,AM hy g]
  · cases h
theorem nE:∀ {l l':List V},rF l=some l'->l'.length=l.length/\∀ (j:Nat) (d:V),l'[j]? =some d->∃ v,l[j]? =some v/\v.deep=some d
 |[],l',h=>by simp only [rF,Option.some.injEq] at h;subst h;exact ⟨rfl,fun j d hd=>by simp at hd⟩
 |v::l,l',h=>by
  simp only [rF] at h
  split at h
  · rename_i x y hx hy
    simp only [Option.some.injEq] at h
    subst h
    obtain ⟨h1,h2⟩:=nE hy
    refine ⟨by simp [h1],fun j d hd=>?_⟩
    cases j with
    |zero=>simp at hd;subst hd;exact ⟨v,rfl,hx⟩
    |succ j=>exact h2 j d (by simpa using hd)
  · cases h
theorem jT:∀ {es ds:List (List V)},eC es=some ds->rF es.flatten=some ds.flatten/\ds.length=es.length/\∀ {sz:Nat},(∀ e∈es,e.length=sz)->∀ e∈ds,e.length=sz
 |[],ds,h=>by simp only [eC,Option.some.injEq] at h;subst h;exact ⟨rfl,rfl,fun _ e he=>by cases he⟩
 |e::es,ds,h=>by
  simp only [eC] at h
  split at h
  · rename_i x y hx hy
    simp only [Option.some.injEq] at h
    subst h
    obtain ⟨h1,h2,h3⟩:=jT hy
    refine ⟨AM hx h1,by simp [h2],fun hl d hd=>?_⟩
    cases hd with
    |head=>rw [(nE hx).1];exact hl e (.head _)
    |tail _ hd=>exact h3 (fun d hd=>hl d (.tail _ hd)) d hd
  · cases h
theorem zB:∀ {l r l' r':List V},hZ l=some l'->hZ r=some r'->hZ (l++r)=some (l'++r')
 |[],r,l',r',h,g=>by simp only [hZ,Option.some.injEq] at h;subst h;exact g
 |v::l,r,l',r',h,g=>by
  simp only [hZ] at h
  split at h
  · rename_i x y hx hy
    simp only [Option.some.injEq] at h
    subst h
    simp only [List.cons_append,hZ,hx,zB hy g]
  · cases h
theorem Eb:∀ {l l':List V},hZ l=some l'->l'.length=l.length
 |[],l',h=>by simp only [hZ,Option.some.injEq] at h;subst h;rfl
 |v::l,l',h=>by
  simp only [hZ] at h
  split at h
  · rename_i x y hx hy
    simp only [Option.some.injEq] at h
    subst h
    simp [Eb hy]
  · cases h
theorem Ec {g:Bool} {l l':List V} (h:tS g l=some l'):l'.length=l.length:=by
 cases g with
 |true=>exact Eb h
 |false=>simp only [tS,Option.some.injEq] at h;rw [h]
theorem nS {g:Bool}:∀ {es ds:List (List V)},iA g es=some ds->tS g es.flatten=some ds.flatten/\ds.length=es.length/\∀ {sz:Nat},(∀ e∈es,e.length=sz)->∀ e∈ds,e.length=sz
 |[],ds,h=>by simp only [iA,Option.some.injEq] at h;subst h;cases g<;>exact ⟨rfl,rfl,fun _ e he=>by cases he⟩
 |e::es,ds,h=>by
  simp only [iA] at h
  split at h
  · rename_i x y hx hy
    simp only [Option.some.injEq] at h
    subst h
    obtain ⟨h1,h2,h3⟩:=nS hy
    refine ⟨?_,by simp [h2],fun hl d hd=>?_⟩
    · cases g with
      |true=>exact zB hx h1
      |false=>simp only [tS,Option.some.injEq] at hx h1 ⊢;simp [hx,h1]
    · cases hd with
      |head=>rw [Ec hx];exact hl e (.head _)
      |tail _ hd=>exact h3 (fun d hd=>hl d (.tail _ hd)) d hd
  · cases h
def jD (E:Env) (cs:List V) (xs:List Value):Prop:=∀ (j:Nat) (v:V),cs[j]? =some v->∃ x,xs[j]? =some x/\Rel E v x/\x.oneCell'=true
def nF (I:AH) (cs:List V) (xs:List Value):Prop:=∀ (j:Nat) (v:V),cs[j]? =some v->∃ x,xs[j]? =some x/\fF I v x
theorem nF.mono {I J:AH} (h:∀ b o x,I b o=some x->J b o=some x) {cs:List V} {xs:List Value} (hr:nF I cs xs):nF J cs xs:=
 fun j v hj=>let ⟨x,a,c⟩:=hr j v hj;⟨x,a,c.mono h⟩
section
variable {P:Program} {o:Oper} {a:Act} {E:Env} {N:Nat} {st:St} {w w':World} {fr:Fr} {next:Act->World->Prop} {Q:Exit->Act->World->Prop} {K:R->Prop}
theorem Ed {z:Nat} (hs:cH E st w) (gone:Option Key) (g:Bool) {cells:Array Value} {t:TypeId} {fz:Nat×Nat} (Lv:tU z fz cells.size) (hh:w'.heap=w.heap.push (.cells cells t fz)) (ho:rL w w')
 {sz cap:Nat} {ds:List (List V)} (hl:∀ e∈ds,e.length=sz) (BM:cells.size=cap*sz) (hc:ds.length<=cap) (hr:nF E.I ds.flatten cells.toList):
 ∃ E',cH E' ((match gone with|some k=>st.remove k|none=>st).push g .spare) w'/\Ext E st w E' ((match gone with|some k=>st.remove k|none=>st).push g .spare) w'/\
  Rel E' (.sl (some (st.aO g)) sz ds) (.slice (some ⟨w.heap.size,0,none⟩) ds.length cap):=by
 have vG:=dA hl
 have hle:ds.length*sz<=cells.size:=by rw [BM];exact Nat.mul_le_mul_right _ hc
 obtain ⟨E',s1,s2,s3,s4,s5⟩:=hs.Xt gone g Lv hh ho (ds.length*sz) hle
 refine ⟨E',s1,s2,?_⟩
 have Dt:=hr.mono s2.le.j6
 refine .F4 _ _ _ _ _ s3 (.sl sz ds w.heap.size 0 cap (fun j=>cells.toList.getD j default) hc hl (fun j d hj=>?_) (fun j d hj=>?_)) (by rw [s4];exact ⟨rfl,rfl⟩) (.inr ?_)
 · have cO:j<ds.length*sz:=by rw [<-vG];exact (List.getElem?_eq_some_iff.1 hj).1
   rw [Nat.zero_add,s5 j cO]
   have:j<cells.size:=by omega
   simp [this]
 · obtain ⟨x,hx,xU⟩:=Dt j d hj
   simp only [List.getD_eq_getElem?_getD,hx]
   exact xU
 · rw [s4];simp [BM]
theorem Rf {z:Nat} (hs:cH E st w) {cells:Array Value} {t:TypeId} {fz:Nat×Nat} (Lv:tU z fz cells.size) (hh:w'.heap=w.heap.push (.cells cells t fz)) (ho:rL w w')
 {sz cap:Nat} {ds:List (List V)} (hl:∀ e∈ds,e.length=sz) (BM:cells.size=cap*sz) (hc:ds.length<=cap) (hr:nF E.I ds.flatten cells.toList):
 ∃ E',cH E' st w'/\Ext E st w E' st w'/\Rel E' (.sl none sz ds) (.slice (some ⟨w.heap.size,0,none⟩) ds.length cap):=by
 obtain ⟨E',s1,s2,s3⟩:=Ed hs none false Lv hh ho hl BM hc hr
 dsimp only at s1 s2
 have Xy:∀ k,st.live k->(st.push false .spare).live k:=by
  rintro k ⟨o,hk⟩
  refine ⟨o,?_⟩
  rw [St.kY,if_neg,hk]
  intro e
  have:=hs.j7 k ⟨o,hk⟩
  rw [e,hs.aO] at this
  exact Env.lZ E false this
 have hle:E.Le { E' with nl:=E.nl }:=⟨s2.le.j6,s2.le.ng,Nat.le_refl _,s2.le.loc⟩
 have lA:∀ k,st.live k->w'.heap[(E.μ k).bS]? =w.heap[(E.μ k).bS]? :=fun k hk=>by
  rw [hh,Array.getElem?_push,if_neg (Nat.ne_of_lt (hs.lt hk))]
 refine ⟨{ E' with nl:=E.nl },⟨?_,hs.nl,fun k hk=>hle.has (hs.j7 k hk),s1.j6,fun k o hk=>?_,fun k k' hk iT dJ=>?_,fun k hk=>s1.own k (Xy k hk)⟩,
  ⟨hle,s2.size,s2.fT,fun k hk _=>hk,fun k hk hn=>absurd (hs.j7 k hk) hn,s2.same,s2.os,s2.out,s2.tape⟩,?_⟩
 · have:=s1.ng
   simpa [St.push] using this
 · have:=(hs.obj k o hk).dZ (Env.jC hle k) (lA k ⟨o,hk⟩)
   rw [show ({ E' with nl:=E.nl }:Env).μ k=E.μ k from hle.loc k (hs.j7 k ⟨o,hk⟩)]
   exact this
 · rw [hle.loc k (hs.j7 k hk),hle.loc k' (hs.j7 k' iT)]
   exact hs.sep k k' hk iT dJ
 · cases s3 with
   |deep hd=>cases hd
   |F4 _ _ _ _ _ hk hd=>exact .deep hd
theorem JG {sz:Nat} (hs:cH E st w) (gone:Option Key) (g:Bool) {cells:Array Value} {t:TypeId} {fz:Nat×Nat} (Lv:tU sz fz cells.size) (hh:w'.heap=w.heap.push (.cells cells t fz)) (ho:rL w w')
 {cap:Nat} {ds:List (List V)} (hl:∀ e∈ds,e.length=sz) (BM:cells.size=cap*sz) (hc:ds.length<=cap) (hr:jD (E.Ju g) ds.flatten cells.toList):
 ∃ E',cH E' ((match gone with|some k=>st.remove k|none=>st).push g (.arr sz ds)) w'/\Ext E st w E' ((match gone with|some k=>st.remove k|none=>st).push g (.arr sz ds)) w'/\
  Rel E' (.ms (st.aO g) sz 0 ds.length) (.slice (some ⟨w.heap.size,0,none⟩) ds.length cap):=by
 have vG:=dA hl
 have hle:ds.length*sz<=cells.size:=by rw [BM];exact Nat.mul_le_mul_right _ hc
 obtain ⟨E',s1,s2,s3,s4⟩:=hs.newRow gone g Lv hh ho (.arr sz ds) ds.flatten (fun F L _ h=>⟨hl,h⟩) (by omega) (fun j v hj=>let ⟨x,hx,h⟩:=hr j v hj;⟨x,by simpa using hx,h⟩)
 refine ⟨E',s1,s2,.ms _ _ _ _ _ _ s3 hc ?_ (by rw [s4]) (.inr ?_)⟩
 · rw [s4];simp [BM]
 · rw [s4];simp
theorem newSlice_ok {m:lQ} {sz:Nat} {es:List (List V)} {A:b7} (hw:(kW m sz es st).wp A K) (hs:cH E st w) {cells:Array Value} {t:TypeId} {fz:Nat×Nat} (Lv:tU sz fz cells.size)
 (hh:w'.heap=w.heap.push (.cells cells t fz)) (ho:rL w w') {cap:Nat} (hl:∀ e∈es,e.length=sz) (BM:cells.size=cap*sz) (hc:es.length<=cap) (hr:jD E es.flatten cells.toList):
 ∃ v cB E',K (v,cB)/\cH E' cB w'/\Ext E st w E' cB w'/\Rel E' v (.slice (some ⟨w.heap.size,0,none⟩) es.length cap):=by
 cases m with
 |im g=>
  obtain ⟨ds,hd,hk⟩:=hw
  obtain ⟨h1,h2,h3⟩:=jT hd
  have lW:nF E.I ds.flatten cells.toList:=by
   intro j d hj
   obtain ⟨v,hv,H3⟩:=(nE h1).2 j d hj
   obtain ⟨x,hx,xU,_⟩:=hr j v hv
   exact ⟨x,hx,AL H3 xU⟩
  obtain ⟨E',s1,s2,s3⟩:=Ed hs none g Lv hh ho (h3 hl) BM (by omega) lW
  exact ⟨_,_,E',hk,s1,s2,by rw [h2] at s3;exact s3⟩
 |fz=>
  obtain ⟨ds,hd,hk⟩:=hw
  obtain ⟨h1,h2,h3⟩:=jT hd
  have lW:nF E.I ds.flatten cells.toList:=by
   intro j d hj
   obtain ⟨v,hv,H3⟩:=(nE h1).2 j d hj
   obtain ⟨x,hx,xU,_⟩:=hr j v hv
   exact ⟨x,hx,AL H3 xU⟩
  obtain ⟨E',s1,s2,s3⟩:=Rf hs Lv hh ho (h3 hl) BM (by omega) lW
  exact ⟨_,_,E',hk,s1,s2,by rw [h2] at s3;exact s3⟩
 |mu g=>
  obtain ⟨ds,hd,hk⟩:=hw
  obtain ⟨h1,h2,h3⟩:=nS hd
  have lW:jD (E.Ju g) ds.flatten cells.toList:=by
   intro j d hj
   have hlen:=Ec h1
   have cO:j<es.flatten.length:=by rw [<-hlen];exact (List.getElem?_eq_some_iff.1 hj).1
   obtain ⟨x,hx,xU,h1x⟩:=hr j _ (List.getElem?_eq_getElem cO)
   have L0:eT E es.flatten (cells.extract 0 es.flatten.length):=by
    have lI:es.flatten.length<=cells.size:=by rw [dA hl,BM];exact Nat.mul_le_mul_right _ hc
    refine ⟨by rw [Array.size_extract];omega,fun j v y hj hy=>?_⟩
    obtain ⟨z,hz,US,_⟩:=hr j v hj
    rw [Array.getElem?_extract] at hy
    split at hy
    · rw [Nat.zero_add] at hy
      rw [Array.getElem?_toList,hy] at hz
      cases hz;exact US
    · cases hy
   have:=vR h1 L0
   refine ⟨x,hx,this.2 j d x hj ?_,h1x⟩
   have H4:j<cells.size:=by
    have:=(List.getElem?_eq_some_iff.1 hx).1
    simpa using this
   rw [Array.getElem?_extract,if_pos (by omega),Nat.zero_add]
   simpa using hx
  obtain ⟨E',s1,s2,s3⟩:=JG hs none g Lv hh ho (h3 hl) BM (by omega) lW
  exact ⟨_,_,E',hk,s1,s2,by rw [h2] at s3 ⊢;exact s3⟩
end
open Go
structure Nz (P:Program) (E:Env) (w:World) (sz:Nat) (x:Value) (es:List (List V)) (xs:List Value):Prop where
 L4:∀ e∈es,e.length=sz
 Ee:xs.length=es.length*sz
 len:∀ w0:World,(Builtin.lenOf x).run P w0=.ok es.length w0
 first:∀ w0:World,w0.heap=w.heap->∀ n,n<=es.length->(Builtin.firstCells sz n x).run P w0=.ok (xs.take (n*sz)).toArray w0
 rel:jD E es.flatten xs
 one:∀ y∈xs,y.oneCell'=true
section
variable {P:Program} {E:Env} {st:St} {w:World} {K:R->Prop}
theorem qA:∀ l:List UInt8,(fD l).flatten=l.map fun c=>V.i .u8 c.toNat
 |[]=>rfl
 |c::r=>by
  have:=qA r
  simp only [fD,List.map_cons,List.flatten_cons,List.singleton_append] at*
  rw [this]
theorem CD {sz:Nat} {es:List (List V)} {b off cap:Nat} (hl:∀ e∈es,e.length=sz) (hc:gN E w b off es.flatten) (len:Nat) (hlen:len=es.length):
 ∃ xs,Nz P E w sz (.slice (some ⟨b,off,none⟩) len cap) es xs:=by
 subst hlen
 obtain ⟨xs,h1,h2,h3,h4⟩:=hc.list
 have vG:=dA hl
 refine ⟨xs,hl,by omega,fun w0=>by simp [Builtin.lenOf],fun w0 hw n hn=>?_,fun j v hj=>?_,h4⟩
 · refine run_firstCells_some (P:=P) w0 sz n ⟨b,off,none⟩ es.length cap (xs.take (n*sz)) ?_ fun j v hj=>?_
   · rw [List.length_take]
     have:n*sz<=es.length*sz:=Nat.mul_le_mul_right _ hn
     omega
   · rw [List.getElem?_take] at hj
     split at hj
     · rw [Addr.add_mid]
       have:=h2 j v hj
       rw [lY] at this ⊢
       simpa [bM,hw] using this
     · cases hj
 · obtain ⟨x,hx,hr⟩:=h3.get hj
   have Uq:xs[j]? =some x:=by simpa using hx
   exact ⟨x,Uq,hr,h4 x (List.mem_of_getElem? Uq)⟩
theorem tW {sz:Nat} {x:Value} (hl:∀ w0:World,(Builtin.lenOf x).run P w0=.ok 0 w0) (hf:∀ w0:World,(Builtin.firstCells sz 0 x).run P w0=.ok #[] w0):Nz P E w sz x [] [] where
 L4 e he:=by cases he
 Ee:=by simp
 len:=hl
 first w0 _ n hn:=by
  obtain rfl:n=0:=by simpa using hn
  simpa using hf w0
 rel j v hj:=by simp at hj
 one y hy:=by cases hy
theorem elems_ok {sz:Nat} {v:V} {x:Value} {A:b7} {k:List (List V)->T R} (hs:cH E st w) (hr:Rel E v x) (hw:(j5 sz st v k).wp A K):
 ∃ es xs,(k es).wp A K/\Nz P E w sz x es xs:=by
 unfold j5 at hw
 split at hw
 · cases hr with
   |deep hd=>
    cases hd
    exact ⟨[],[],hw,tW (fun w0=>by simp [Builtin.lenOf]) (fun w0=>by simp [Builtin.firstCells])⟩
 · rename_i tok eD es
   split at hw
   case isFalse=>exact hw.elim
   rename_i hz
   subst hz
   have fin:∀ {x:Value},fF E.I (.sl none eD es) x->∃ xs,Nz P E w eD x es xs:=by
    intro x hd
    cases hd with
    |nW=>exact ⟨[],tW (fun w0=>by simp [Builtin.lenOf]) (fun w0=>by simp [Builtin.firstCells])⟩
    |LO _ a hs=>exact ⟨[],tW (fun w0=>by simp [Builtin.lenOf]) (fun w0=>by simp [Builtin.firstCells,loadCells,loadCellsFrom])⟩
    |sl _ _ bS off cap val hc hl hv hr=>exact CD hl (hs.Wc hv hr) _ rfl
   cases hr with
   |deep hd=>
    cases hd with
    |nW=>obtain ⟨xs,h⟩:=fin (.nW (I:=E.I) eD);exact ⟨_,xs,hw,h⟩
    |LO _ a hs=>obtain ⟨xs,h⟩:=fin (.LO (I:=E.I) eD a hs);exact ⟨_,xs,hw,h⟩
    |sl _ _ bS off cap val hc hl hv hr=>obtain ⟨xs,h⟩:=fin (.sl eD es bS off cap val hc hl hv hr);exact ⟨_,xs,hw,h⟩
   |F4 k _ _ a cap hk hd _ _=>obtain ⟨xs,h⟩:=fin hd;exact ⟨_,xs,hw,h⟩
 · rename_i key eD s n
   split at hw
   case isFalse=>exact hw.elim
   rename_i hz
   subst hz
   obtain ⟨ob,eO,hw⟩:=hw
   dsimp only at hw
   split at hw
   case h_2=>exact hw.elim
   rename_i eW es
   split at hw
   case isFalse=>exact hw.elim
   rename_i hz
   subst hz
   obtain ⟨cY,hw⟩:=hw
   have cY:s+n<=es.length:=by simpa using cY
   have hlen:((es.drop s).take n).length=n:=by simp;omega
   cases hr with
   |deep hd=>cases hd
   |ms _ _ _ _ a cap hk hc hf hb ha=>
    have OY:=hs.obj key _ eO
    rcases ha with h0|ha
    · have hn:n=0:=by omega
      subst hn
      have:(es.drop s).take 0=[]:=by simp
      rw [this] at hw
      exact ⟨[],[],hw,tW (fun w0=>by simp [Builtin.lenOf]) (fun w0=>by simp [Builtin.firstCells,loadCells,loadCellsFrom])⟩
    · subst ha
      have hl:∀ e∈(es.drop s).take n,e.length=eW:=fun e he=>OY.1 e (List.mem_of_mem_drop (List.mem_of_mem_take he))
      have y9:∀ e∈es.drop s,e.length=eW:=fun e he=>OY.1 e (List.mem_of_mem_drop he)
      have pG:=(OY.2.AK.mono (E.D2 key)).sub (s*eW) (n*eW)
      rw [<-nD OY.1,<-nC y9] at pG
      obtain ⟨xs,hx⟩:=CD (P:=P) (cap:=cap) hl pG n hlen.symm
      exact ⟨_,xs,hw,hx⟩
 · rename_i l
   split at hw
   case isFalse=>exact hw.elim
   rename_i hz
   subst hz
   have hx:=hr.C8
   subst hx
   have lI:(str l).size=l.length:=by simp [str,ByteArray.size]
   refine ⟨fD l,l.map fun c=>.int .u8 c.toNat,hw,?_,by simp [fD],fun w0=>by simp [Builtin.lenOf,fD,lI],?_,?_,?_⟩
   · intro e he
     simp only [fD,List.mem_map] at he
     obtain ⟨c,_,rfl⟩:=he
     rfl
   · intro w0 _ n hn
     simp only [fD,List.length_map] at hn
     simp only [Builtin.firstCells,Sem.run_pure,Nat.mul_one]
     congr 1
     apply Array.ext'
     simp [str,ByteArray.data_extract,List.map_take]
   · intro j v hj
     rw [qA,List.getElem?_map] at hj
     cases hc:l[j]? with
     |none=>rw [hc] at hj;cases hj
     |some c=>
      rw [hc] at hj
      simp only [Option.map_some,Option.some.injEq] at hj
      subst hj
      exact ⟨.int .u8 c.toNat,by simp [hc],.deep (.i _ _),rfl⟩
   · intro y hy
     simp only [List.mem_map] at hy
     obtain ⟨c,_,rfl⟩:=hy
     rfl
 · exact hw.elim
def sF (P:Program) (t:Option TypeId):Bool:=
 match t with
 |some u=>match P.underlying u with
  |some (.int _)=>false
  |some _=>true
  |none=>false
 |none=>true
theorem BN {u:TypeId} {d:TypeDesc} (hq:P.underlying u=some d) (hz:sF P (some u)=true):∀ k,d≠.int k:=by
 intro k hk
 subst hk
 simp [sF,hq] at hz
theorem fM {α β:Type} {X:Result α} {F:α->World->Result β} {x:α} {w':World} {Y:Result β} (hX:X=.ok x w') (h:F x w'=Y):X.andThen F=Y:=by rw [hX];exact h
theorem sG {ts:Array TypeId} {t ty el:TypeId} {i:TypeInfo} {x:Value} {n:Nat} {xs:List Value} (ht:ts[0]? =some t) (hu:P.underlying t=some (.slice el)) (hi:P.info? el=some i) (hz:sF P ts[1]? =true)
 (hlen:(Builtin.lenOf x).run P w=.ok n w) (Db:(Builtin.firstCells i.size n x).run P w=.ok xs.toArray w) (b off oV yS:Nat) (mC:oV+n<=yS) (Wf:w.there b (off+oV*i.size) xs.length) (h1:∀ y∈xs,y.oneCell'=true):
 (Builtin.append_ ts ty #[.slice (some ⟨b,off,none⟩) oV yS,x]).run P w=.ok (.slice (some ⟨b,off,none⟩) (oV+n) yS) (w.setCells b (off+oV*i.size) xs):=by
 have mY:=run_storeCells_cells (P:=P) b (off+oV*i.size) xs 0 w (fun j hj=>by simpa using (Wf j hj).1) (fun j hj=>by simpa using (Wf j hj).2) h1
 simp only [Nat.add_zero] at mY
 unfold Builtin.append_
 simp only [ht,List.getElem?_toArray,List.getElem?_cons_zero,List.getElem?_cons_succ,Sem.run_bind,run_underlying hu,Result.andThen_ok]
 refine fM (x:=i.size) (w':=w) (by simp [sizeOf,typeInfo,hi]) ?_
 cases h:ts[1]? with
 |none=>
  simp [hlen,mC,Db,Addr.add_mid,mY]
 |some u=>
  rw [h] at hz
  cases hq:P.underlying u with
  |none=>simp [sF,hq] at hz
  |some d=>
   have dJ:=BN hq hz
   simp only [Sem.run_bind,run_underlying hq,Result.andThen_ok]
   refine fM (x:=false) (w':=w) (by cases d<;>first|exact absurd rfl (dJ _)|simp) ?_
   simp [hlen,mC,Db,Addr.add_mid,mY]
theorem oW {ts:Array TypeId} {t ty el:TypeId} {i:TypeInfo} {x:Value} (ht:ts[0]? =some t) (hu:P.underlying t=some (.slice el)) (hi:P.info? el=some i) (hz:sF P ts[1]? =true)
 (hlen:(Builtin.lenOf x).run P w=.ok 0 w) (Db:(Builtin.firstCells i.size 0 x).run P w=.ok #[] w) (b:Option Addr) (oV yS:Nat) (mC:oV<=yS):
 (Builtin.append_ ts ty #[.slice b oV yS,x]).run P w=.ok (.slice b oV yS) w:=by
 unfold Builtin.append_
 simp only [ht,List.getElem?_toArray,List.getElem?_cons_zero,List.getElem?_cons_succ,Sem.run_bind,run_underlying hu,Result.andThen_ok]
 refine fM (x:=i.size) (w':=w) (by simp [sizeOf,typeInfo,hi]) ?_
 cases h:ts[1]? with
 |none=>
  cases b<;>simp [hlen,mC,Db,storeCells]
 |some u=>
  rw [h] at hz
  cases hq:P.underlying u with
  |none=>simp [sF,hq] at hz
  |some d=>
   have dJ:=BN hq hz
   simp only [Sem.run_bind,run_underlying hq,Result.andThen_ok]
   refine fM (x:=false) (w':=w) (by cases d<;>first|exact absurd rfl (dJ _)|simp) ?_
   cases b<;>simp [hlen,mC,Db,storeCells]
theorem qB {ts:Array TypeId} {t ty el:TypeId} {i:TypeInfo} {z:Value} {x:Value} {n:Nat} {xs ys:List Value} (ht:ts[0]? =some t) (hu:P.underlying t=some (.slice el)) (hi:P.info? el=some i) (D9:i.zero=some z) (hz:sF P ts[1]? =true)
 (hlen:(Builtin.lenOf x).run P w=.ok n w) (Db:(Builtin.firstCells i.size n x).run P w.drew=.ok xs.toArray w.drew) (b:Option Addr) (oV yS:Nat)
 (hold:(Builtin.firstCells i.size oV (.slice b oV yS)).run P w.drew=.ok ys.toArray w.drew) (hg:yS<oV+n) (hb:(oV+n)*i.bytes<=140737488355328) (h63:oV+n<=9223372036854775807):
 (Builtin.append_ ts ty #[.slice b oV yS,x]).run P w=.ok (.slice (some ⟨w.heap.size,0,none⟩) (oV+n) (grownCap w (oV+n) yS el))
   (w.drew.alloc (.cells (ys.toArray++xs.toArray++Builtin.zeroCells z.cells (grownCap w (oV+n) yS el - (oV+n))) el)):=by
 have hn:¬(oV+n<=yS):=by omega
 have aaI:¬(9223372036854775807<((oV:Int)+(n:Int))):=by omega
 have Da:=growslice_fits (need:=oV+n) (old:=yS) (bytes:=i.bytes) hg hb
 have aaJ:¬(281474976710656<Builtin.nextslicecap (oV+n) yS*i.bytes):=by omega
 unfold Builtin.append_
 simp only [ht,List.getElem?_toArray,List.getElem?_cons_zero,List.getElem?_cons_succ,Sem.run_bind,run_underlying hu,Result.andThen_ok]
 refine fM (x:=i.size) (w':=w) (by simp [sizeOf,typeInfo,hi]) ?_
 cases h:ts[1]? with
 |none=>
  simp [typeInfo,zeroValue,hi,D9,hlen,hn,aaI,aaJ,Question.forced,Db,hold,newRow,grownCap]
  congr 2
  apply Array.ext'
  simp [List.append_assoc]
 |some u=>
  rw [h] at hz
  cases hq:P.underlying u with
  |none=>simp [sF,hq] at hz
  |some d=>
   have dJ:=BN hq hz
   simp only [Sem.run_bind,run_underlying hq,Result.andThen_ok]
   refine fM (x:=false) (w':=w) (by cases d<;>first|exact absurd rfl (dJ _)|simp) ?_
   simp [typeInfo,zeroValue,hi,D9,hlen,hn,aaI,aaJ,Question.forced,Db,hold,newRow,grownCap]
   congr 2
   apply Array.ext'
   simp [List.append_assoc]
end
end Go.Eng
