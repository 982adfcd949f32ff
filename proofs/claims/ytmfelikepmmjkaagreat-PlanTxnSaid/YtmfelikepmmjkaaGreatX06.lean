/-
Each operation of the model does what the abstract step says (part eleven: copy, clear, min and max, maps, calls).
-/
import Derived.Test.YtmfelikepmmjkaaGreatX05
import Derived.Laws.StructEq
import Derived.ChangeKeysEq
set_option linter.unusedVariables false
set_option linter.unusedSimpArgs false
namespace Go.Eng
open Go
section
variable {P:Program} {o:Oper} {a:Act} {E:Env} {N:Nat} {st:St} {w:World} {fr:Fr} {next:Act->World->Prop} {Q:Exit->Act->World->Prop} {K:R->Prop}
theorem jD.take {cs:List V} {xs:List Value} (hr:jD E cs xs) (n:Nat):jD E (cs.take n) (xs.take n):=by
 intro j v hj
 rw [List.getElem?_take] at hj ⊢
 split at hj
 · rename_i h
   rw [if_pos h]
   exact hr j v hj
 · cases hj
theorem gC:Rel E (.bY []) (.tuple #[]):=.bY _ _ rfl (fun j v x hj=>by simp at hj)
theorem cH.aaU (hs:cH E st w) {k:Key} {sz:Nat} {es ds:List (List V)} (eO:st.get k=some (.arr sz es)) {xs:List Value} {off:Nat} (hd:∀ e∈ds,e.length=sz) (cY:off+ds.length<=es.length)
 (L7:xs.length=ds.length*sz) (hr:jD (E.Ju k.sC) ds.flatten xs) (h1:∀ x∈xs,x.oneCell'=true):
 cH E (st.set k (.arr sz (es.take off++ds++es.drop (off+ds.length)))) (w.setCells (E.μ k).bS ((E.μ k).base+off*sz) xs)/\
 Ext E st w E (st.set k (.arr sz (es.take off++ds++es.drop (off+ds.length)))) (w.setCells (E.μ k).bS ((E.μ k).base+off*sz) xs)/\
 w.there (E.μ k).bS ((E.μ k).base+off*sz) xs.length:=by
 obtain ⟨hl,cells,ty,fz,r1,r2,r3,r4,r5⟩:=hs.obj k _ eO
 have jE:=dA hl
 have L5:=dA hd
 have Qx:(off+ds.length)*sz<=es.length*sz:=Nat.mul_le_mul_right _ cY
 rw [Nat.add_mul] at Qx
 have LV:=NA hl hd cY
 have dR:=iH.written r1 r2 r3 r4 r5 (off:=off*sz) (vs:=ds.flatten) (xs:=xs) (by rw [Env.zU];exact hr.aaK (by rw [L7,L5])) h1 (by omega)
 rw [<-LV] at dR
 have AA:∀ e∈es.take off++ds++es.drop (off+ds.length),e.length=sz:=by
  intro e he
  rcases List.mem_append.1 he with h|h
  · rcases List.mem_append.1 h with h|h
    · exact hl e (List.mem_of_mem_take h)
    · exact hd e h
  · exact hl e (List.mem_of_mem_drop h)
 obtain ⟨s1,s2⟩:=hs.write eO r1 r4 (pos:=(E.μ k).base+off*sz) (xs:=xs) (by omega) (by omega) (.arr sz (es.take off++ds++es.drop (off+ds.length))) ⟨AA,dR⟩
 exact ⟨s1,s2,Row.there r1 r2 (by omega)⟩
theorem vY {b c:Nat} {xs:List Value} (ht:w.there b c xs.length) (h1:∀ y∈xs,y.oneCell'=true):(storeCells ⟨b,c,none⟩ xs).run P w=.ok () (w.setCells b c xs):=by
 have:=run_storeCells_cells (P:=P) b c xs 0 w (fun j hj=>by simpa using (ht j hj).1) (fun j hj=>by simpa using (ht j hj).2) h1
 simpa using this
theorem Pa {x y:Operand} {d e:bL} {ts:Array TypeId} {t el:TypeId} {sz:Nat} (ho:o.op=.call { callee:=.builtin .copy,args:=#[x,y],argTypes:=ts }) (ht:ts[0]? =some t) (hu:P.underlying t=some (.slice el))
 (hz:(P.info? el).map (·.size)=some sz) (hx:eL x d=true) (hy:eL y e=true)
 (hs:cH E st w) (hf:bB E N fr a) (hw:(step (.copy sz d e) fr st).wp (aC P) K) (hc:fV E st w o a next K):o.wp P a w next Q:=by
 have r1:=bG hx hf
 have r2:=bG hy hf
 cases hq:P.info? el with
 |none=>simp [hq] at hz
 |some i=>
 have hi:i.size=sz:=by simpa [hq] using hz
 simp only [step] at hw
 obtain ⟨src,xs,hw,sS⟩:=elems_ok (P:=P) hs r2 hw
 split at hw
 case h_2=>exact hw.elim
 rename_i k eD off len e1
 rw [e1] at r1
 split at hw
 case isFalse=>exact hw.elim
 rename_i Ej
 subst Ej
 obtain ⟨ds,kR,ob,eO,hw⟩:=hw
 dsimp only at hw
 split at hw
 case h_2=>exact hw.elim
 rename_i eW es
 split at hw
 case isFalse=>exact hw.elim
 rename_i Ej
 subst Ej
 obtain ⟨cY,hw⟩:=hw
 have cY:off+len<=es.length:=by simpa using cY
 obtain ⟨F6,Gf,Lw⟩:=nS kR
 have cO:∀ e∈src.take len,e.length=eW:=fun e he=>sS.L4 e (List.mem_of_mem_take he)
 have Lw:=Lw cO
 have hn:ds.length=min len src.length:=by rw [Gf,List.length_take]
 have L7:(xs.take (ds.length*eW)).length=ds.length*eW:=by
  rw [List.length_take,sS.Ee]
  have:ds.length*eW<=src.length*eW:=Nat.mul_le_mul_right _ (by omega)
  omega
 have jM:src.take len=src.take ds.length:=by rw [hn,Nat.min_comm,List.take_eq_take_iff];omega
 have QY:jD E (src.take len).flatten (xs.take (ds.length*eW)):=by
  rw [jM,nC sS.L4]
  exact sS.rel.take _
 have lW:=QY.own F6 (by rw [L7,dA cO,List.length_take,hn])
 have h1:∀ y∈xs.take (ds.length*eW),y.oneCell'=true:=fun y hy=>sS.one y (List.mem_of_mem_take hy)
 obtain ⟨s1,s2,s3⟩:=hs.aaU eO Lw (off:=off) (by omega) L7 lW h1
 have Db:=sS.first w rfl ds.length (by omega)
 have hlen:=sS.len w
 generalize hv:a.eval x=y at r1
 cases r1 with
 |deep hd=>cases hd
 |ms _ _ _ _ ad cap hk Dv hh Du ha=>
 refine aX (x:=goInt ds.length) ?_ (hc _ _ E _ _ hw s1 s2 (.deep (.i _ _)))
 have agT:Nat.min src.length len=ds.length:=by rw [hn];exact Nat.min_comm _ _
 have mY:(storeCells ad (xs.take (ds.length*eW))).run P w=.ok () (w.setCells (E.μ k).bS ((E.μ k).base+off*eW) (xs.take (ds.length*eW))):=by
  rcases ha with h|h
  · have Wm:ds.length=0:=by omega
    have h0:xs.take (ds.length*eW)=[]:=by simp [Wm]
    rw [h0];rfl
  · subst h
    exact vY s3 h1
 simp [execOp,ho,resolve,invoke,builtin,Builtin.copy_,ht,hv,run_underlying hu,hlen,sizeOf,typeInfo,hq,hi,agT,Db,mY,Result.andThen]
theorem Mc {x:Operand} {d:bL} {ts:Array TypeId} {t el:TypeId} {sz bytes:Nat} {zero:List V} (ho:o.op=.call { callee:=.builtin .clear,args:=#[x],argTypes:=ts }) (ht:ts[0]? =some t) (hu:P.underlying t=some (.slice el))
 (nQ:Gd P el sz bytes=true) (Ur:mB P el zero=true) (hx:eL x d=true)
 (hs:cH E st w) (hf:bB E N fr a) (hw:(step (.clear sz zero d) fr st).wp (aC P) K) (hc:fV E st w o a next K):o.wp P a w next Q:=by
 obtain ⟨i,z,hi,D9,lI,hby,JH,L6,UT⟩:=xZ nQ
 obtain ⟨i',z',cZ,JL,Re,hr,hl,h1⟩:=jS Ur
 rw [hi] at cZ;cases cZ
 rw [D9] at JL;cases JL
 have Wi:zero.length=sz:=by omega
 have r1:=bG hx hf
 simp only [step] at hw
 split at hw
 · rename_i e1
   rw [e1] at r1
   have hv:=r1.GO
   exact aX (x:=.tuple #[]) (by simp [execOp,ho,resolve,invoke,builtin,Builtin.clear_,ht,hv,run_underlying hu,Result.andThen]) (hc.same hs hw gC)
 · rename_i k eD off len e1
   rw [e1] at r1
   split at hw
   case isFalse=>exact hw.elim
   rename_i Ej
   subst Ej
   obtain ⟨ob,eO,hw⟩:=hw
   dsimp only at hw
   split at hw
   case h_2=>exact hw.elim
   rename_i eW es
   split at hw
   case isFalse=>exact hw.elim
   rename_i Ej
   subst Ej
   obtain ⟨cY,hw⟩:=hw
   have cY:off+len<=es.length:=by simpa using cY
   have Wj:∀ e∈List.replicate len zero,e.length=eW:=fun e he=>by rw [(List.mem_replicate.1 he).2];exact Wi
   have Wk:=Eh (len:=len) (hr (E.Ju k.sC)) (by omega)
   have H8:=Ei (n:=len*zero.length) h1 (by omega)
   rw [Wi] at Wk H8
   have dR:=Wk.Ri H8
   have hms:(madeCells z.cells (len*eW)).toList.length=(List.replicate len zero).length*eW:=by simp [size_madeCells]
   have Qx:∀ y∈(madeCells z.cells (len*eW)).toList,y.oneCell'=true:=fun y hy=>by
    obtain ⟨j,hj⟩:=List.getElem?_of_mem hy
    rw [Array.getElem?_toList] at hj
    exact H8 j y hj
   obtain ⟨s1,s2,s3⟩:=hs.aaU eO Wj (off:=off) (by rw [List.length_replicate];exact cY) hms dR Qx
   rw [List.length_replicate] at s1 s2
   generalize hv:a.eval x=y at r1
   cases r1 with
   |deep hd=>cases hd
   |ms _ _ _ _ ad cap hk Dv hh Du ha=>
   refine aX (x:=.tuple #[]) ?_ (hc _ _ E _ _ hw s1 s2 gC)
   cases len with
   |zero=>
    have h0:(madeCells z.cells (0*eW)).toList=[]:=by simp [madeCells,Array.range_zero']
    rw [h0]
    simp [execOp,ho,resolve,invoke,builtin,Builtin.clear_,ht,hv,run_underlying hu,Result.andThen,World.setCells]
   |succ n=>
    have ha:ad=⟨(E.μ k).bS,(E.μ k).base+off*eW,none⟩:=by
     rcases ha with h|h
     · omega
     · exact h
    subst ha
    have mY:=vY (P:=P) s3 Qx
    have hzc:Builtin.zeroCells z.cells (n+1)=madeCells z.cells ((n+1)*eW):=by simp only [Builtin.zeroCells,madeCells,UT]
    simp [execOp,ho,resolve,invoke,builtin,Builtin.clear_,ht,hv,run_underlying hu,Result.andThen,zeroValue,typeInfo,hi,D9,hzc,mY]
 · exact hw.elim
theorem BQ {max:Bool}:∀ {vs:List V} {xs:List Value} {v u:V} {x:Value},eT E vs xs.toArray->Rel E v x->iQ max v vs=some u->
 ∃ y,(match max with|true=>xs.foldlM Builtin.max2 x|false=>xs.foldlM Builtin.min2 x:Sem Value).run P w=.ok y w/\Rel E u y
 |[],xs,v,u,x,hr,hv,h=>by
  have:xs=[]:=by
   have:=hr.1
   simpa using this
  subst this
  have hu:u=v:=by simp [iQ] at h;exact h.symm
  subst hu
  refine ⟨x,?_,hv⟩
  cases max<;>rfl
 |v1::vr,xs,v,u,x,hr,hv,h=>by
  have hlen:=hr.1
  cases xs with
  |nil=>simp at hlen
  |cons x1 xr=>
  have h1:Rel E v1 x1:=hr.2 0 v1 x1 rfl (by simp)
  have BJ:eT E vr xr.toArray:=⟨by simpa using hlen,fun j q y hq hy=>hr.2 (j+1) q y (by simpa using hq) (by simpa using hy)⟩
  unfold iQ at h
  split at h
  · cases ‹_=[]›
  · rename_i k p k' q r' heq
    cases heq
    have hv:=hv.int
    have h1:=h1.int
    subst hv;subst h1
    cases max with
    |true=>
     simp only at h
     obtain ⟨y,hy,hry⟩:=BQ (x:=.int k (if p<q then q else p)) BJ (.deep (.i _ _)) h
     refine ⟨y,?_,hry⟩
     simp only [List.foldlM_cons,Sem.run_bind,Builtin.max2,Sem.run_pure,Result.andThen_ok]
     exact hy
    |false=>
     simp only at h
     obtain ⟨y,hy,hry⟩:=BQ (x:=.int k (if q<p then q else p)) BJ (.deep (.i _ _)) h
     refine ⟨y,?_,hry⟩
     simp only [List.foldlM_cons,Sem.run_bind,Builtin.min2,Sem.run_pure,Result.andThen_ok]
     exact hy
  · cases h
theorem Pb {max:Bool} {xs:Array Operand} {ds:List bL} {ts:Array TypeId} (ho:o.op=.call { callee:=.builtin (if max then .max else .min),args:=xs,argTypes:=ts }) (hx:D7 xs.toList ds=true)
 (hs:cH E st w) (hf:bB E N fr a) (hw:(step (.BI max ds) fr st).wp (aC P) K) (hc:fV E st w o a next K):o.wp P a w next Q:=by
 have r1:=AJ hf hx
 simp only [step] at hw
 split at hw
 case h_2=>exact hw.elim
 rename_i v r e1
 rw [e1] at r1
 unfold T.opt at hw
 split at hw
 case h_2=>exact hw.elim
 rename_i u hu
 have hlen:=r1.1
 cases hl:xs.toList.map a.eval with
 |nil=>rw [hl] at hlen;simp at hlen
 |cons y ys=>
  rw [hl] at r1
  have h1:Rel E v y:=r1.2 0 v y rfl (by simp)
  have BJ:eT E r ys.toArray:=⟨by have:=r1.1;simpa using this,fun j q z hq hz=>r1.2 (j+1) q z (by simpa using hq) (by simpa using hz)⟩
  obtain ⟨z,hz,US⟩:=BQ (P:=P) (w:=w) BJ h1 hu
  have hm:(xs.map a.eval).toList=y::ys:=by rw [Array.toList_map,hl]
  refine aX (x:=z) ?_ (hc.same hs hw US)
  cases max with
  |true=>simp only at hz;simp [execOp,ho,resolve,invoke,builtin,Builtin.max_,hl,hz,Result.andThen]
  |false=>simp only at hz;simp [execOp,ho,resolve,invoke,builtin,Builtin.min_,hl,hz,Result.andThen]
def AS (P:Program) (kt:TypeId) (kd:Option IntKind):Bool:=
 match P.underlying kt,kd with
 |some .string,none=>true
 |some (.int q),some k=>decide (q=k)
 |_,_=>false
theorem zW {kt:TypeId} {kd:Option IntKind} (h:AS P kt kd=true):∃ d,P.underlying kt=some d/\
 ∀ {I:AH} {v:V} {x:Value},v.fR kd=true->fF I v x->MapKept.IsKey d x:=by
 unfold AS at h
 split at h
 · rename_i hu
   refine ⟨_,hu,fun {I v x} hk hr=>?_⟩
   unfold V.fR at hk
   split at hk
   · cases hr;trivial
   · rename_i e1;cases e1
   · cases hk
 · rename_i q k hu
   refine ⟨_,hu,fun {I v x} hk hr=>?_⟩
   simp only [decide_eq_true_eq] at h
   subst h
   unfold V.fR at hk
   split at hk
   · rename_i e1;cases e1
   · rename_i e1
     cases e1
     simp only [decide_eq_true_eq] at hk
     subst hk
     cases hr;rfl
   · cases hk
 · cases h
theorem Rel.key {kd:Option IntKind} {v:V} {x:Value} (hk:v.fR kd=true) (h:Rel E v x):fF E.I v x:=by
 unfold V.fR at hk
 split at hk
 · cases h;assumption
 · cases h;assumption
 · cases hk
theorem Pc {I:AH} {kd:Option IntKind} {v u:V} {x y:Value} (hv:v.fR kd=true) (hu:u.fR kd=true) (h1:fF I v x) (h2:fF I u y):rG v u=true↔x=y:=by
 unfold V.fR at hv hu
 split at hv
 · split at hu
   · cases h1;cases h2
     simp only [rG,beq_iff_eq,Value.string.injEq]
     constructor
     · rintro rfl;rfl
     · intro h
       have:=congrArg (fun b=>b.data.toList) h
       simpa [str] using this
   · rename_i e1;cases e1
   · cases hu
 · split at hu
   · rename_i e1;cases e1
   · rename_i e1
     cases e1
     simp only [decide_eq_true_eq] at hv hu
     subst hv;subst hu
     cases h1;cases h2
     simp [rG]
   · cases hu
 · cases hv
def x6 (E:Env) (kd:Option IntKind) (es:List (V×V)) (l:List MapEntry):Prop:=
 l.length=es.length/\∀ (j:Nat) (q:V×V) (e:MapEntry),es[j]? =some q->l[j]? =some e->fF E.I q.1 e.key/\q.1.fR kd=true/\Rel E q.2 e.val
theorem find_spec {kd:Option IntKind} {d:TypeDesc} (hd:∀ {I:AH} {v:V} {x:Value},v.fR kd=true->fF I v x->MapKept.IsKey d x) {kv:V} {k:Value} (XE:kv.fR kd=true) (hk:fF E.I kv k) (u:V):
 ∀ (es:List (V×V)) (l:List MapEntry) (i:Nat),x6 E kd es l->
  (Instr.findNow d k l i=some none/\mX es kv=none/\vL es kv u=es++[(kv,u)]/\Gc es kv=es)\/
  ∃ j e q,Instr.findNow d k l i=some (some (i+j,e.val))/\l[j]? =some e/\es[j]? =some q/\e.key=k/\mX es kv=some q.2/\vL es kv u=es.set j (kv,u)/\Gc es kv=es.eraseIdx j
 |[],l,i,h=>by
  have:l=[]:=List.eq_nil_of_length_eq_zero h.1
  subst this
  exact .inl ⟨rfl,rfl,rfl,rfl⟩
 |q::es,l,i,h=>by
  obtain ⟨q1,q2⟩:=q
  cases l with
  |nil=>have:=h.1;simp at this
  |cons e l=>
  obtain ⟨h1,h2,h3⟩:=h.2 0 _ e rfl rfl
  have hkd:=hd XE hk
  have Rs:=hd h2 h1
  obtain ⟨r,hr,aaW⟩:=MapKept.sameNow_of_keys hkd Rs
  have hq:=Pc XE h2 hk h1
  cases r with
  |true=>
   have he:=aaW.1 rfl
   have Qz:rG kv q1=true:=hq.2 he
   exact .inr ⟨0,e,(q1,q2),by simp [Instr.findNow,hr],rfl,rfl,he.symm,by simp [mX,Qz],by simp [vL,Qz],by simp [Gc,Qz]⟩
  |false=>
   have Qz:rG kv q1=false:=by
    cases hb:rG kv q1 with
    |false=>rfl
    |true=>have:=aaW.2 (hq.1 hb);cases this
   have hp:x6 E kd es l:=⟨by have:=h.1;simpa using this,fun j p e' hp he=>h.2 (j+1) p e' (by simpa using hp) (by simpa using he)⟩
   rcases find_spec hd XE hk u es l (i+1) hp with ⟨a1,a2,a3,a4⟩|⟨j,e',q',a1,a2,a3,a4,a5,a6,a7⟩
   · exact .inl ⟨by simp [Instr.findNow,hr,a1],by simp [mX,Qz,a2],by simp [vL,Qz,a3],by simp [Gc,Qz,a4]⟩
   · exact .inr ⟨j+1,e',q',by simp [Instr.findNow,hr,a1];omega,by simpa using a2,by simpa using a3,a4,by simp [mX,Qz,a5],by simp [vL,Qz,a6],by simp [Gc,Qz,a7]⟩
theorem cH.Rt (hs:cH E st w) {k:Key} {kd:Option IntKind} {es:List (V×V)} (eO:st.get k=some (.mp kd es)):∃ bU clock,w.heap[(E.μ k).bS]? =some (.map bU clock)/\x6 (E.at k) kd es bU.toList:=by
 obtain ⟨bU,clock,h1,h2,h3,_⟩:=hs.obj k _ eO
 exact ⟨bU,clock,h1,by simpa using h2,fun j q e hq he=>h3 j q e hq (by simpa using he)⟩
theorem cH.Dx (hs:cH E st w) {k:Key} {kd:Option IntKind} {es:List (V×V)} (eO:st.get k=some (.mp kd es)) {bU:Array MapEntry} {clock:Nat} (hb:w.heap[(E.μ k).bS]? =some (.map bU clock)):C7 bU clock:=by
 obtain ⟨En,BR,h1,_,_,h4⟩:=hs.obj k _ eO
 rw [hb] at h1
 cases h1
 exact h4
theorem Pd {bU:Array MapEntry} {clock:Nat} (h:C7 bU clock) (k v:Value):C7 (bU.push { key:=k,val:=v,born:=clock }) (clock+1):=by
 refine ⟨?_,?_⟩
 · intro x hx
   rw [Array.toList_push,List.mem_append,List.mem_singleton] at hx
   rcases hx with hx|rfl
   · have:=h.1 x hx;omega
   · exact Nat.lt_succ_self _
 · rw [Array.toList_push,List.map_append,List.map_cons,List.map_nil]
   refine List.nodup_append.2 ⟨h.2,by simp,?_⟩
   intro a ha b hb
   rw [List.mem_singleton] at hb
   subst hb
   obtain ⟨x,hx,rfl⟩:=List.mem_map.1 ha
   exact Nat.ne_of_lt (h.1 x hx)
theorem JO {bU:Array MapEntry} {clock:Nat} (h:C7 bU clock) (j:Nat) (k v:Value):C7 (bU.modify j fun e'=>{ e' with key:=k,val:=v }) clock:=by
 have ND:(bU.modify j fun e'=>{ e' with key:=k,val:=v }).toList.map (·.born)=bU.toList.map (·.born):=by
  apply List.ext_getElem?
  intro i
  simp only [List.getElem?_map,Array.getElem?_toList,Array.getElem?_modify]
  split
  · rename_i zE;subst zE;cases bU[j]? <;>rfl
  · rfl
 refine ⟨fun x hx=>?_,by rw [ND];exact h.2⟩
 have hm:x.born∈bU.toList.map (·.born):=by rw [<-ND];exact List.mem_map_of_mem hx
 obtain ⟨y,hy,he⟩:=List.mem_map.1 hm
 rw [<-he]
 exact h.1 y hy
theorem Md {bU:Array MapEntry} {clock:Nat} (h:C7 bU clock) (j:Nat):C7 (bU.eraseIdxIfInBounds j) clock:=by
 unfold Array.eraseIdxIfInBounds
 split
 · rw [C7,Array.toList_eraseIdx]
   exact ⟨fun x hx=>h.1 x (List.mem_of_mem_eraseIdx hx),h.2.sublist ((List.eraseIdx_sublist _ _).map _)⟩
 · exact h
theorem Env.XF (E:Env) (k:Key):(E.at k).I=E.I:=by cases k<;>rfl
theorem cH.Ib (hs:cH E st w) {k:Key} {kd:Option IntKind} {es:List (V×V)} (eO:st.get k=some (.mp kd es)) {bU:Array MapEntry} {clock:Nat} (hb:w.heap[(E.μ k).bS]? =some (.map bU clock))
 (En:Array MapEntry) (BR:Nat) (F3:List (V×V)) (hbn:C7 En BR) (hp:x6 (E.at k) kd F3 En.toList):
 cH E (st.set k (.mp kd F3)) { w with heap:=w.heap.setIfInBounds (E.μ k).bS (.map En BR) }/\Ext E st w E (st.set k (.mp kd F3)) { w with heap:=w.heap.setIfInBounds (E.μ k).bS (.map En BR) }:=by
 obtain ⟨q1,q2⟩:=MapKept.heap_set (o':=.map En BR) hb
 refine hs.set eO _ (by simp) (fun b dJ=>q2 b dJ) rfl rfl rfl (fun j x hx=>?_) ⟨En,BR,q1,by simpa using hp.1,fun j q e hq he=>hp.2 j q e hq (by simpa using he),hbn⟩
 have:=hs.j6 _ _ _ hx
 simp [bM,hb] at this
theorem Ru {t kt el:TypeId} {x y:Operand} {d e:bL} {kd:Option IntKind} {zero:V} {ok:Bool} {i:TypeInfo} {z:Value} (ho:o.op=.lookup t x y ok) (hu:P.underlying t=some (.map kt el)) (hk:AS P kt kd=true)
 (hi:P.info? el=some i) (hz:i.zero=some z) (Ur:rK 4 z zero=true) (hx:eL x d=true) (hy:eL y e=true)
 (hs:cH E st w) (hf:bB E N fr a) (hw:(step (.Up kd zero d e ok) fr st).wp (aC P) K) (hc:fV E st w o a next K):o.wp P a w next Q:=by
 have r1:=bG hx hf
 have r2:=bG hy hf
 obtain ⟨dd,Lx,lX⟩:=zW hk
 simp only [step] at hw
 split at hw
 case h_2=>exact hw.elim
 rename_i BS
 have Wn:=r2.key BS
 have Wo:=lX BS Wn
 have pair:∀ {v:V} {b:Bool} {u:Value},Rel E v u->Rel E (.bY [v,.b b]) (.tuple #[u,.bool b]):=by
  intro v b u hr
  refine .bY _ _ rfl fun j v' x' h1 h2=>?_
  match j with
  |0=>simp at h1 h2;subst h1;subst h2;exact hr
  |1=>simp at h1 h2;subst h1;subst h2;exact .deep (.b _)
  |j+2=>simp at h1
 split at hw
 · rename_i e1
   rw [e1] at r1
   generalize hv:a.eval x=y' at r1
   cases r1 with
   |deep hd=>cases hd
   |gS=>
    have vJ:=MapKept.run_checkKey (w:=w) (P:=P) Lx Wo true 9999
    have LA:(Instr.findKey kt (a.eval y) []).run P w=.ok none w:=MapKept.run_findKey Lx (by rfl)
    unfold tT at hw
    cases ok with
    |true=>
     refine aX (x:=.tuple #[z,.bool false]) ?_ (hc.same hs (hw.1 rfl) (pair (lS Ur E)))
     simp [execOp,ho,hv,Instr.lookup,run_underlying hu,vJ,LA,zeroValue,typeInfo,hi,hz]
    |false=>
     refine aX (x:=z) ?_ (hc.same hs (hw.1 rfl) (lS Ur E))
     simp [execOp,ho,hv,Instr.lookup,run_underlying hu,vJ,LA,zeroValue,typeInfo,hi,hz]
 · rename_i k e1
   rw [e1] at r1
   obtain ⟨ob,eO,hw⟩:=hw
   dsimp only at hw
   split at hw
   case h_2=>exact hw.elim
   rename_i Jz es
   split at hw
   case isFalse=>exact hw.elim
   rename_i BT
   subst BT
   generalize hv:a.eval x=y' at r1
   cases r1 with
   |deep hd=>cases hd
   |m _ hhk=>
    obtain ⟨bU,clock,hb,hp⟩:=hs.Rt eO
    have vJ:=fun b=>MapKept.run_checkKey (w:=w) (P:=P) Lx Wo b 9999
    have hg:=MapKept.run_getObj_map (P:=P) hb
    rcases find_spec (E:=E.at k) lX BS (by rw [Env.XF];exact Wn) .gD es bU.toList 0 hp with ⟨a1,a2,_,_⟩|⟨j,en,q,a1,a2,a3,a4,a5,_,_⟩
    · have LA:=MapKept.run_findKey (P:=P) (w:=w) Lx a1
      unfold tT at hw
      rw [a2] at hw
      cases ok with
      |true=>
       refine aX (x:=.tuple #[z,.bool false]) ?_ (hc.same hs (hw.1 rfl) (pair (lS Ur E)))
       simp [execOp,ho,hv,Instr.lookup,run_underlying hu,hg,vJ,LA,zeroValue,typeInfo,hi,hz]
      |false=>
       refine aX (x:=z) ?_ (hc.same hs (hw.1 rfl) (lS Ur E))
       simp [execOp,ho,hv,Instr.lookup,run_underlying hu,hg,vJ,LA,zeroValue,typeInfo,hi,hz]
    · have LA:=MapKept.run_findKey (P:=P) (w:=w) Lx a1
      have vH:=(hp.2 j q en a3 a2).2.2.mono (E.D2 k)
      unfold tT at hw
      rw [a5] at hw
      cases ok with
      |true=>
       refine aX (x:=.tuple #[en.val,.bool true]) ?_ (hc.same hs (hw.2 _ rfl) (pair vH))
       simp [execOp,ho,hv,Instr.lookup,run_underlying hu,hg,vJ,LA]
      |false=>
       refine aX (x:=en.val) ?_ (hc.same hs (hw.2 _ rfl) vH)
       simp [execOp,ho,hv,Instr.lookup,run_underlying hu,hg,vJ,LA]
 · exact hw.elim
theorem Rw {g:Bool} {v u:V} {x:Value} (h:UK g v=some u) (hr:Rel E v x):Rel (E.Ju g) u x:=by
 cases g with
 |true=>exact AI h hr
 |false=>simp only [UK,Option.some.injEq] at h;subst h;exact hr
theorem GR {t kt el:TypeId} {x y v:Operand} {d e c:bL} {kd:Option IntKind} (ho:o.op=.mapUpdate t x y v\/o.op=.insert t x y v) (hu:P.underlying t=some (.map kt el)) (hk:AS P kt kd=true)
 (hx:eL x d=true) (hy:eL y e=true) (hv:eL v c=true)
 (hs:cH E st w) (hf:bB E N fr a) (hw:(step (.LM kd d e c) fr st).wp (aC P) K) (hc:fV E st w o a next K):o.wp P a w next Q:=by
 have r1:=bG hx hf
 have r2:=bG hy hf
 have r3:=bG hv hf
 obtain ⟨dd,Lx,lX⟩:=zW hk
 simp only [step] at hw
 split at hw
 case h_2=>exact hw.elim
 rename_i BS
 have Wn:=r2.key BS
 have Wo:=lX BS Wn
 split at hw
 case h_2=>exact hw.elim
 rename_i k e1
 rw [e1] at r1
 obtain ⟨ob,eO,hw⟩:=hw
 dsimp only at hw
 split at hw
 case h_2=>exact hw.elim
 rename_i Jz es
 split at hw
 case isFalse=>exact hw.elim
 rename_i BT
 subst BT
 unfold T.opt at hw
 split at hw
 case h_2=>exact hw.elim
 rename_i u Rx
 have hru:=Rw Rx r3
 rw [<-Env.zU] at hru
 generalize Ro:a.eval x=y' at r1
 cases r1 with
 |deep hd=>cases hd
 |m _ hhk=>
  obtain ⟨bU,clock,hb,hp⟩:=hs.Rt eO
  have vJ:=fun b=>MapKept.run_checkKey (w:=w) (P:=P) Lx Wo b 9999
  have hg:=MapKept.run_getObj_map (P:=P) hb
  have r2a:fF (E.at k).I (e.ev fr) (a.eval y):=by rw [Env.XF];exact Wn
  rcases find_spec (E:=E.at k) lX BS r2a u es bU.toList 0 hp with ⟨a1,a2,a3,_⟩|⟨j,en,q,a1,a2,a3,a4,a5,a6,_⟩
  · have LA:=MapKept.run_findKey (P:=P) (w:=w) Lx a1
    dsimp only at hw
    rw [a3] at hw
    obtain ⟨s1,s2⟩:=hs.Ib eO hb (bU.push { key:=a.eval y,val:=a.eval v,born:=clock }) (clock+1) (es++[(e.ev fr,u)]) (Pd (hs.Dx eO hb) _ _) ⟨by simp [<-hp.1],fun j q en hq yT=>by
     rw [Array.toList_push] at yT
     rw [List.getElem?_append] at hq yT
     have hlen:=hp.1
     split at hq
     · rename_i cO
       rw [if_pos (by omega)] at yT
       exact hp.2 j q en hq yT
     · rename_i cO
       rw [if_neg (by omega)] at yT
       have h0:j - es.length=0:=by
        have:=(List.getElem?_eq_some_iff.1 hq).1
        simp at this;omega
       rw [h0] at hq
       rw [hlen,h0] at yT
       simp at hq yT
       subst hq;subst yT
       exact ⟨r2a,BS,hru⟩⟩
    refine HZ ?_ (hc _ _ E _ _ hw s1 s2 gC)
    rcases ho with ho|ho<;>simp [execOp,ho,Ro,Instr.mapUpdate,run_underlying hu,hg,vJ,LA,MapKept.run_setObj_map _ hb]
  · have LA:=MapKept.run_findKey (P:=P) (w:=w) Lx a1
    have hj:bU[j]? =some en:=by simpa using a2
    dsimp only at hw
    rw [a6] at hw
    obtain ⟨s1,s2⟩:=hs.Ib eO hb (bU.modify j fun e'=>{ e' with key:=a.eval y,val:=a.eval v }) clock (es.set j (e.ev fr,u)) (JO (hs.Dx eO hb) _ _ _) ⟨by simp [<-hp.1],fun i q' en' hq yT=>by
     rw [Array.getElem?_toList,Array.getElem?_modify] at yT
     by_cases Ry:j=i
     · subst Ry
       rw [if_pos rfl,hj] at yT
       simp only [Option.map_some,Option.some.injEq] at yT
       have cO:=(List.getElem?_eq_some_iff.1 a3).1
       rw [List.getElem?_set_self cO] at hq
       simp only [Option.some.injEq] at hq
       subst hq;subst yT
       exact ⟨r2a,BS,hru⟩
     · rw [if_neg Ry] at yT
       rw [List.getElem?_set_ne Ry] at hq
       exact hp.2 i q' en' hq (by simpa using yT)⟩
    refine HZ ?_ (hc _ _ E _ _ hw s1 s2 gC)
    rcases ho with ho|ho<;>simp [execOp,ho,Ro,Instr.mapUpdate,run_underlying hu,hg,vJ,LA,hj,a4,MapKept.run_keyThatStays Wo,MapKept.run_setObj_map _ hb]
theorem Pe {kd:Option IntKind} {es:List (V×V)} {l:List MapEntry} (hp:x6 E kd es l) {j:Nat} (_hj:j<l.length):x6 E kd (es.eraseIdx j) (l.eraseIdx j):=by
 have hlen:=hp.1
 refine ⟨by rw [List.length_eraseIdx,List.length_eraseIdx,hlen],fun i q e hq he=>?_⟩
 rw [List.getElem?_eraseIdx] at hq he
 split at hq
 · rename_i h
   rw [if_pos h] at he
   exact hp.2 _ q e hq he
 · rename_i h
   rw [if_neg h] at he
   exact hp.2 _ q e hq he
theorem JP {ts:Array TypeId} {t kt el:TypeId} {x y:Operand} {d e:bL} {kd:Option IntKind} (ho:o.op=.call { callee:=.builtin .delete,args:=#[x,y],argTypes:=ts }) (ht:ts[0]? =some t) (hu:P.underlying t=some (.map kt el)) (hk:AS P kt kd=true)
 (hx:eL x d=true) (hy:eL y e=true)
 (hs:cH E st w) (hf:bB E N fr a) (hw:(step (.delete kd d e) fr st).wp (aC P) K) (hc:fV E st w o a next K):o.wp P a w next Q:=by
 have r1:=bG hx hf
 have r2:=bG hy hf
 obtain ⟨dd,Lx,lX⟩:=zW hk
 simp only [step] at hw
 split at hw
 case h_2=>exact hw.elim
 rename_i BS
 have Wn:=r2.key BS
 have Wo:=lX BS Wn
 split at hw
 · rename_i e1
   rw [e1] at r1
   generalize hv:a.eval x=y' at r1
   cases r1 with
   |deep hd=>cases hd
   |gS=>
    have vJ:=MapKept.run_checkKey (w:=w) (P:=P) Lx Wo true 9999
    exact aX (x:=.tuple #[]) (by simp [execOp,ho,resolve,invoke,builtin,Builtin.delete_,ht,hv,run_underlying hu,vJ,Result.andThen]) (hc.same hs hw gC)
 · rename_i k e1
   rw [e1] at r1
   obtain ⟨ob,eO,hw⟩:=hw
   dsimp only at hw
   split at hw
   case h_2=>exact hw.elim
   rename_i Jz es
   split at hw
   case isFalse=>exact hw.elim
   rename_i BT
   subst BT
   generalize Ro:a.eval x=y' at r1
   cases r1 with
   |deep hd=>cases hd
   |m _ hhk=>
    obtain ⟨bU,clock,hb,hp⟩:=hs.Rt eO
    have vJ:=fun b=>MapKept.run_checkKey (w:=w) (P:=P) Lx Wo b 9999
    have hg:=MapKept.run_getObj_map (P:=P) hb
    have r2a:fF (E.at k).I (e.ev fr) (a.eval y):=by rw [Env.XF];exact Wn
    rcases find_spec (E:=E.at k) lX BS r2a .gD es bU.toList 0 hp with ⟨a1,a2,_,a4⟩|⟨j,en,q,a1,a2,a3,a4,a5,_,a7⟩
    · have LA:=MapKept.run_findKey (P:=P) (w:=w) Lx a1
      rw [a4] at hw
      obtain ⟨s1,s2⟩:=hs.Ib eO hb bU clock es (hs.Dx eO hb) hp
      refine aX (x:=.tuple #[]) ?_ (hc _ _ E _ _ hw s1 s2 gC)
      simp [execOp,ho,resolve,invoke,builtin,Builtin.delete_,ht,Ro,run_underlying hu,hg,vJ,LA,MapKept.run_setObj_map _ hb,Result.andThen]
    · have LA:=MapKept.run_findKey (P:=P) (w:=w) Lx a1
      rw [a7] at hw
      have cO:=(List.getElem?_eq_some_iff.1 a2).1
      have JD:j<bU.size:=by simpa using cO
      have JQ:=Pe hp cO
      have LB:(bU.eraseIdxIfInBounds j).toList=bU.toList.eraseIdx j:=by
       unfold Array.eraseIdxIfInBounds
       rw [dif_pos JD]
       simp
      rw [<-LB] at JQ
      obtain ⟨s1,s2⟩:=hs.Ib eO hb (bU.eraseIdxIfInBounds j) clock (es.eraseIdx j) (Md (hs.Dx eO hb) _) JQ
      refine aX (x:=.tuple #[]) ?_ (hc _ _ E _ _ hw s1 s2 gC)
      simp [execOp,ho,resolve,invoke,builtin,Builtin.delete_,ht,Ro,run_underlying hu,hg,vJ,LA,MapKept.run_setObj_map _ hb,Result.andThen]
 · exact hw.elim
theorem tX {f:Nat} {args:Array Value} (h:sE P f=true):(callFunc f args).run P w=.ok (.enter f args) w:=by
 unfold sE at h
 split at h
 · rename_i fn F7
   simp only [Bool.and_eq_true,Bool.not_eq_true',beq_eq_false_iff_ne] at h
   obtain ⟨h1,h2⟩:=h
   have h3:fn.body.isNone=false:=by cases hb:fn.body<;>simp [hb] at h1 ⊢
   have h4:¬fn.body=none:=by intro h;rw [h] at h1;cases h1
   simp [callFunc,F7,h2,h4]
 · cases h
theorem JR {f:Nat} {args:Array Value} (h:(execOp a.eval o).run P w=.ok (.enter f args) w) (hc:Calls P f args w fun
 |.returned v,V8=>next (a.put o.dst v) V8
 |.panicked chain,V8=>Q (.panic chain) a V8
 |.outgrown,_=>LetsOut Q):o.wp P a w next Q:=by
 unfold Oper.wp
 rw [h,Oper.upon_enter]
 exact hc
theorem Pf {f:Nat} {xs:Array Operand} {ds:List bL} {ts:Array TypeId} (ho:o.op=.call { callee:=.value (.func f),args:=xs,argTypes:=ts }) (hx:D7 xs.toList ds=true)
 (hs:cH E st w) (hf:bB E N fr a) (hw:(step (.call f ds) fr st).wp (aC P) K) (hc:fV E st w o a next K):o.wp P a w next Q:=by
 have r1:=AJ hf hx
 simp only [step] at hw
 unfold T.opt at hw
 split at hw
 case h_2=>exact hw.elim
 rename_i vs Xs
 have hb:sE P f=true:=hw.1
 have e:(xs.toList.map a.eval).toArray=xs.map a.eval:=by
  apply Array.ext'
  simp
 rw [e] at r1
 refine JR (f:=f) (args:=xs.map a.eval) ?_ (aC.use hs Xs r1 hw (fun v h' E' w' x hk s1 s2 hr=>hc v _ E' w' x hk s1 s2 hr))
 simp [execOp,ho,resolve,Act.eval,Deferred.ofValue,invoke,tX hb]
theorem Me {f:Operand} {g:bL} {xs:Array Operand} {ds:List bL} {ts:Array TypeId} (ho:o.op=.call { callee:=.value f,args:=xs,argTypes:=ts }) (hg:eL f g=true) (hx:D7 xs.toList ds=true)
 (hs:cH E st w) (hf:bB E N fr a) (hw:(step (.y8 g ds) fr st).wp (aC P) K) (hc:fV E st w o a next K):o.wp P a w next Q:=by
 have r0:=bG hg hf
 have r1:=AJ hf hx
 simp only [step] at hw
 split at hw
 case h_2=>exact hw.elim
 rename_i n first cap e1
 rw [e1] at r0
 unfold T.opt at hw
 split at hw
 case h_2=>exact hw.elim
 rename_i vs Xs
 have hb:sE P n=true:=hw.1
 have e:(xs.toList.map a.eval).toArray=xs.map a.eval:=by
  apply Array.ext'
  simp
 rw [e] at r1
 generalize hv:a.eval f=y at r0
 cases r0 with
 |deep hd=>cases hd
 |fn _ _ _ fa ca h1 h2 h3 h4=>
  have fH:eT E (first++bL.HV fr ds++cap) (fa++xs.map a.eval++ca):=(eT.append (eT.append ⟨h1,h3⟩ r1) ⟨h2,h4⟩)
  refine JR (f:=n) (args:=fa++xs.map a.eval++ca) ?_ (aC.use hs Xs fH hw (fun v h' E' w' x hk s1 s2 hr=>hc v _ E' w' x hk s1 s2 hr))
  simp [execOp,ho,resolve,hv,Deferred.ofValue,invoke,tX hb]
end
open Go
def NF (row:Bool) (ks:List CK):Option Nat:=if row then some ks.length else none
def nY (P:Program) (lay:TypeId->Option (Bool×List CK)):List Field->Nat->Option (List CK)
 |[],_=>some []
 |f::fs,acc=>match lay f.type with
  | some (row, ks) => if f.name ≠ "_" ∧ f.offset = acc ∧ 0 < ks.length ∧ vP P f.type (NF row ks) = true then
     (match nY P lay fs (acc+ks.length) with
     |some rest=>some (ks++rest)
     |none=>none)
    else none
  |none=>none
def Eo (P:Program):Nat->TypeId->Option (Bool×List CK)
 |0,_=>none
 |n+1,t=>match P.underlying t with
  |some .bool=>some (false,[.b])
  |some (.int _)=>some (false,[.i])
  |some .string=>some (false,[.s])
  |some (.struct fs)=>if P.stoodInHeld t=true then none else match nY P (Eo P n) fs.toList 0 with
   |some ks=>some (true,ks)
   |none=>none
  |some (.array len e)=>match Eo P n e with
   |some (row,ks)=>if (P.info? e).map (·.size)=some ks.length/\0<ks.length/\vP P e (NF row ks)=true then some (true,(List.replicate len ks).flatten) else none
   |none=>none
  |_=>none
theorem qD:∀ {k1 k2:List CK} {cs ds:List V} {r:Bool},eB (k1++k2) cs ds=some r->
 k1.length<=cs.length/\k1.length<=ds.length/\∃ r1 r2,eB k1 (cs.take k1.length) (ds.take k1.length)=some r1/\eB k2 (cs.drop k1.length) (ds.drop k1.length)=some r2/\r=(r1&&r2)
 |[],k2,cs,ds,r,h=>⟨Nat.zero_le _,Nat.zero_le _,true,r,by simp [eB],by simpa using h,by simp⟩
 |k::k1,k2,cs,ds,r,h=>by
  cases cs with
  |nil=>simp [eB] at h
  |cons c cs=>
  cases ds with
  |nil=>simp [eB] at h
  |cons d ds=>
  simp only [List.cons_append,eB] at h
  split at h
  · rename_i a b ha hb
    simp only [Option.some.injEq] at h
    subst h
    obtain ⟨h1,h2,r1,r2,h3,h4,rfl⟩:=qD hb
    refine ⟨by simp [h1],by simp [h2],a&&r1,r2,by simp [eB,ha,h3],by simpa using h4,by simp [Bool.and_assoc]⟩
  · cases h
section
variable {P:Program} {o:Oper} {a:Act} {E:Env} {N:Nat} {st:St} {w:World} {fr:Fr} {next:Act->World->Prop} {Q:Exit->Act->World->Prop} {K:R->Prop}
def UZ (P:Program) (E:Env) (d:Nat) (lay:TypeId->Option (Bool×List CK)):Prop:=
 ∀ (t:TypeId) (row:Bool) (ks:List CK),lay t=some (row,ks)->∀ (w:World) (v u:V) (x y:Value) (cs ds:List V) (r:Bool),Rel E v x->Rel E u y->v.row row=some cs->u.row row=some ds->eB ks cs ds=some r->
  (Op.equalIn d t x y).run P w=.ok r w
theorem NG {d:Nat} {lay:TypeId->Option (Bool×List CK)} (IH:UZ P E d lay) {t:TypeId} {row:Bool} {ks:List CK} (hl:lay t=some (row,ks)) (hz:vP P t (NF row ks)=true) (XG:row=false->ks.length=1) (H5:0<ks.length)
 {cs ds:List V} {xs ys:Array Value} (hx:eT E cs xs) (hy:eT E ds ys) (LC:∀ (j:Nat) (x:Value),xs[j]? =some x->x.oneCell'=true) (QA:∀ (j:Nat) (x:Value),ys[j]? =some x->x.oneCell'=true)
 {off:Nat} {r:Bool} (QB:ks.length<=(cs.drop off).length) (Zx:ks.length<=(ds.drop off).length) (hr:eB ks ((cs.drop off).take ks.length) ((ds.drop off).take ks.length)=some r) (w:World):
 ∃ x y,(part t xs off).run P w=.ok x w/\(part t ys off).run P w=.ok y w/\(Op.equalIn d t x y).run P w=.ok r w:=by
 cases row with
 |true=>
  have hz:vP P t (some ks.length)=true:=hz
  have ldc:∀ {l:List V},ks.length<=(l.drop off).length->off<=l.length->dS l off (some ks.length)=some (.agg ((l.drop off).take ks.length)):=by
   intro l h h'
   simp only [dS]
   rw [if_pos (by simp at h;omega)]
  have LS:off<=cs.length:=by rw [List.length_drop] at QB;omega
  have UR:off<=ds.length:=by rw [List.length_drop] at Zx;omega
  obtain ⟨x,p1,q1⟩:=sT (w:=w) hz hx LC (ldc QB LS)
  obtain ⟨y,p2,q2⟩:=sT (w:=w) hz hy QA (ldc Zx UR)
  exact ⟨x,y,p1,p2,IH t true ks hl w _ _ x y _ _ r q1 q2 rfl rfl hr⟩
 |false=>
  have hz:vP P t none=true:=hz
  have h1:=XG rfl
  obtain ⟨k,rfl⟩:∃ k,ks=[k]:=by
   match ks,h1 with
   |[k],_=>exact ⟨k,rfl⟩
  simp only [List.length_singleton] at hr QB Zx
  have get:∀ {l:List V},1<=(l.drop off).length->∃ c,l[off]? =some c/\(l.drop off).take 1=[c]:=by
   intro l h
   simp only [List.length_drop] at h
   have cO:off<l.length:=by omega
   refine ⟨l[off],by simp [cO],?_⟩
   rw [List.drop_eq_getElem_cons cO]
   rfl
  obtain ⟨c,NB,NH⟩:=get QB
  obtain ⟨d',F6,Gf⟩:=get Zx
  rw [NH,Gf] at hr
  obtain ⟨x,p1,q1⟩:=sT (w:=w) hz hx LC NB
  obtain ⟨y,p2,q2⟩:=sT (w:=w) hz hy QA F6
  refine ⟨x,y,p1,p2,IH t false [k] hl w c d' x y [c] [d'] r q1 q2 ?_ ?_ hr⟩
  · cases c<;>first|rfl|(cases k<;>simp [eB,vK] at hr)
  · cases d'<;>first|rfl|(cases k<;>cases c<;>simp [eB,vK] at hr)
theorem NI {n:Nat} {t:TypeId} {ks:List CK} (h:Eo P n t=some (false,ks)):ks.length=1:=by
 cases n with
 |zero=>cases h
 |succ n=>
  unfold Eo at h
  split at h
  · cases h;rfl
  · cases h;rfl
  · cases h;rfl
  · split at h
    · cases h
    · split at h<;>cases h
  · split at h
    · split at h<;>cases h
    · cases h
  · cases h
theorem GS {d:Nat} {lay:TypeId->Option (Bool×List CK)} (IH:UZ P E d lay) (XG:∀ t ks,lay t=some (false,ks)->ks.length=1)
 {cs ds:List V} {xs ys:Array Value} (hx:eT E cs xs) (hy:eT E ds ys) (LC:∀ (j:Nat) (x:Value),xs[j]? =some x->x.oneCell'=true) (QA:∀ (j:Nat) (x:Value),ys[j]? =some x->x.oneCell'=true):
 ∀ (fs:List Field) (acc:Nat) (ks:List CK) (r:Bool),nY P lay fs acc=some ks->eB ks (cs.drop acc) (ds.drop acc)=some r->∀ w,(Op.eqFields d xs ys fs).run P w=.ok r w
 |[],acc,ks,r,h,hr,w=>by
  simp only [nY,Option.some.injEq] at h
  subst h
  have:r=true:=by
   cases hc:cs.drop acc<;>cases hd:ds.drop acc<;>rw [hc,hd] at hr<;>simp [eB] at hr
   exact hr
  subst this
  simp [Op.eqFields]
 |f::fs,acc,ks,r,h,hr,w=>by
  simp only [nY] at h
  split at h
  case h_2=>cases h
  rename_i row k1 hl
  split at h
  case isFalse=>cases h
  rename_i hc
  obtain ⟨c1,c2,c3,c4⟩:=hc
  split at h
  case h_2=>cases h
  rename_i rest aaY
  simp only [Option.some.injEq] at h
  subst h
  obtain ⟨l1,l2,r1,r2,e1,e2,rfl⟩:=qD hr
  obtain ⟨x,y,p1,p2,p3⟩:=NG IH hl c4 (fun dR=>XG _ _ (by rw [<-dR];exact hl)) c3 hx hy LC QA l1 l2 e1 w
  rw [List.drop_drop,List.drop_drop] at e2
  have ih:=GS IH XG hx hy LC QA fs (acc+k1.length) rest r2 aaY e2 w
  simp only [Op.eqFields]
  rw [if_pos c1,c2]
  simp only [Sem.run_bind,p1,p2,p3,Result.andThen_ok]
  cases r1
  · simp
  · simpa using ih
theorem JS {d:Nat} {lay:TypeId->Option (Bool×List CK)} (IH:UZ P E d lay) {e:TypeId} {row:Bool} {k1:List CK} (hl:lay e=some (row,k1)) (XG:row=false->k1.length=1) (H5:0<k1.length)
 (hz:vP P e (NF row k1)=true)
 {cs ds:List V} {xs ys:Array Value} (hx:eT E cs xs) (hy:eT E ds ys) (LC:∀ (j:Nat) (x:Value),xs[j]? =some x->x.oneCell'=true) (QA:∀ (j:Nat) (x:Value),ys[j]? =some x->x.oneCell'=true):
 ∀ (m i:Nat) (r:Bool),eB (List.replicate m k1).flatten (cs.drop (i*k1.length)) (ds.drop (i*k1.length))=some r->∀ w,(Op.eqItems d e k1.length xs ys (List.range' i m)).run P w=.ok r w
 |0,i,r,hr,w=>by
  have:r=true:=by
   cases hc:cs.drop (i*k1.length)<;>cases hd:ds.drop (i*k1.length)<;>rw [hc,hd] at hr<;>simp [eB] at hr
   exact hr
  subst this
  simp [Op.eqItems]
 |m+1,i,r,hr,w=>by
  rw [List.replicate_succ,List.flatten_cons] at hr
  obtain ⟨l1,l2,r1,r2,e1,e2,rfl⟩:=qD hr
  obtain ⟨x,y,p1,p2,p3⟩:=NG IH hl hz XG H5 hx hy LC QA l1 l2 e1 w
  rw [List.drop_drop,List.drop_drop,<-Nat.succ_mul] at e2
  have ih:=JS IH hl XG H5 hz hx hy LC QA m (i+1) r2 e2 w
  rw [List.range'_succ]
  simp only [Op.eqItems,Sem.run_bind,p1,p2,p3,Result.andThen_ok]
  cases r1
  · simp
  · simpa using ih
theorem eqLay_ok (d:Nat):∀ n,UZ P E (d+n) (Eo P n)
 |0=>fun t row ks h=>by cases h
 |n+1=>fun t row ks h w v u x y cs ds r hv hu zT kR hr=>by
  unfold Eo at h
  rw [show d+(n+1)=(d+n)+1 from rfl]
  split at h
  · rename_i Us
    cases h
    cases AT:v<;>rw [AT] at zT<;>simp [V.row] at zT<;>subst zT
    all_goals (cases sY:u<;>rw [sY] at kR<;>simp [V.row] at kR<;>subst kR)
    all_goals (simp [eB,vK] at hr)
    subst AT;subst sY;subst hr
    rw [hv.bool,hu.bool,run_equalIn_bool w _ t _ _ Us]
  · rename_i k Us
    cases h
    cases AT:v<;>rw [AT] at zT<;>simp [V.row] at zT<;>subst zT
    all_goals (cases sY:u<;>rw [sY] at kR<;>simp [V.row] at kR<;>subst kR)
    all_goals (simp [eB,vK] at hr)
    rename_i k1 n1 k2 n2
    subst AT;subst sY
    by_cases hk:k1=k2
    · subst hk
      simp at hr
      subst hr
      rw [hv.int,hu.int,run_equalIn_int w _ t k1 k _ _ Us]
      rfl
    · simp [hk] at hr
  · rename_i Us
    cases h
    cases AT:v<;>rw [AT] at zT<;>simp [V.row] at zT<;>subst zT
    all_goals (cases sY:u<;>rw [sY] at kR<;>simp [V.row] at kR<;>subst kR)
    all_goals (simp [eB,vK] at hr)
    subst AT;subst sY;subst hr
    rw [hv.C8,hu.C8,run_equalIn_string w _ t _ _ Us,jO,jO]
  · rename_i fs Us
    split at h
    · cases h
    rename_i mY
    split at h
    case h_2=>cases h
    rename_i k1 BP
    simp only [Option.some.injEq,Prod.mk.injEq] at h
    obtain ⟨rfl,rfl⟩:=h
    cases AT:v<;>rw [AT] at zT<;>simp [V.row] at zT
    subst zT
    cases sY:u<;>rw [sY] at kR<;>simp [V.row] at kR
    subst kR
    subst AT;subst sY
    cases hv with
    |deep hd=>cases hd
    |agg _ xs LC BU hx3=>
    cases hu with
    |deep hd=>cases hd
    |agg _ ys QA Lz hy3=>
    have hfs:P.fieldsOf t=fs:=by simp [Program.fieldsOf,Us]
    rw [run_equalIn_struct w (d+n) t xs ys (by rw [hfs];exact Us) (by simpa using mY),hfs]
    exact GS (eqLay_ok d n) (fun _ _=>NI) ⟨LC,hx3⟩ ⟨QA,hy3⟩ BU Lz fs.toList 0 _ r BP (by simpa using hr) w
  · rename_i len e Us
    split at h
    case h_2=>cases h
    rename_i XH k1 BP
    split at h
    case isFalse=>cases h
    rename_i hc
    obtain ⟨c1,c2,c3⟩:=hc
    simp only [Option.some.injEq,Prod.mk.injEq] at h
    obtain ⟨rfl,rfl⟩:=h
    cases AT:v<;>rw [AT] at zT<;>simp [V.row] at zT
    subst zT
    cases sY:u<;>rw [sY] at kR<;>simp [V.row] at kR
    subst kR
    subst AT;subst sY
    cases hv with
    |deep hd=>cases hd
    |agg _ xs LC BU hx3=>
    cases hu with
    |deep hd=>cases hd
    |agg _ ys QA Lz hy3=>
    cases hq:P.info? e with
    |none=>simp [hq] at c1
    |some i=>
    have pG:P.cellsOf e=k1.length:=by
     simp [hq] at c1
     simp [Program.cellsOf,hq,c1]
    rw [run_equalIn_array w (d+n) xs ys Us hq,pG,List.range_eq_range']
    exact JS (eqLay_ok d n) BP (fun dR=>NI (by rw [<-dR];exact BP)) c2 c3 ⟨LC,hx3⟩ ⟨QA,hy3⟩ BU Lz len 0 r (by simpa using hr) w
  · cases h
def Rz (P:Program) (t:TypeId) (row:Bool) (ks:List CK):Bool:=
 decide (Eo P 20 t=some (row,ks))&&!P.eqGuardType P.depth t&&(row||decide (ks=[.b]))
theorem T.Mf {α β:Type} {A:b7} {o:Option α} {k:α->T β} {K:β->Prop} (h:(T.opt o k).wp A K):∃ x,o=some x/\(k x).wp A K:=by
 unfold T.opt at h
 cases o with
 |none=>exact h.elim
 |some x=>exact ⟨x,rfl,h⟩
theorem RA {op:BinOp} {t yt:TypeId} {x y:Operand} {d e:bL} {row neg:Bool} {ks:List CK} (ho:o.op=.binOp op t x y yt) (Ia:op=if neg then .neq else .eql) (hx:eL x d=true) (hy:eL y e=true) (hn:Rz P t row ks=true)
 (hs:cH E st w) (hf:bB E N fr a) (hw:(step (.UF row ks neg d e) fr st).wp (aC P) K) (hc:fV E st w o a next K):o.wp P a w next Q:=by
 have r1:=bG hx hf
 have r2:=bG hy hf
 unfold Rz at hn
 simp only [Bool.and_eq_true,decide_eq_true_eq,Bool.not_eq_true',Bool.or_eq_true] at hn
 obtain ⟨⟨hn,Ut⟩,iW⟩:=hn
 simp only [step] at hw
 obtain ⟨cs,zT,hw⟩:=T.Mf hw
 obtain ⟨ds,kR,hw⟩:=T.Mf hw
 obtain ⟨r,hr,hw⟩:=T.Mf hw
 have h:=eqLay_ok (E:=E) (P:=P) 9980 20 t row ks hn w _ _ _ _ cs ds r r1 r2 zT kR hr
 have h:(Op.equal t (a.eval x) (a.eval y)).run P w=.ok r w:=h
 have hk:K (.b (if neg then !r else r),st):=by cases neg<;>exact hw
 have fin:(eqGuard op t x y (a.eval x) (a.eval y)).run P w=.ok () w->(binOp op t (a.eval x) (a.eval y)).run P w=.ok (.bool (if neg then !r else r)) w->o.wp P a w next Q:=by
  intro h1 h2
  exact aX (x:=.bool (if neg then !r else r)) (by simp [execOp,ho,h1,h2]) (hc.same hs hk (.deep (.b _)))
 cases row with
 |true=>
  have hv:∃ c,d.ev fr=.agg c:=by
   cases hq:d.ev fr<;>rw [hq] at zT<;>simp [V.row] at zT
   exact ⟨_,rfl⟩
  have hu:∃ c,e.ev fr=.agg c:=by
   cases hq:e.ev fr<;>rw [hq] at kR<;>simp [V.row] at kR
   exact ⟨_,rfl⟩
  obtain ⟨c1,hv⟩:=hv
  obtain ⟨c2,hu⟩:=hu
  rw [hv] at r1
  rw [hu] at r2
  generalize BU:a.eval x=x' at r1 fin h
  generalize Lz:a.eval y=y' at r2 fin h
  cases r1 with
  |deep hd=>cases hd
  |agg _ xs=>
  cases r2 with
  |deep hd=>cases hd
  |agg _ ys=>
  refine fin (run_eqGuard_agg w op t x y xs ys Ut) ?_
  have h:(Op.equalIn 10000 t (.agg xs) (.agg ys)).run P w=.ok r w:=h
  subst Ia
  cases neg with
  |true=>simp only [if_true];rw [run_neq_struct,h];rfl
  |false=>simp only [Bool.false_eq_true,if_false];rw [run_eql_struct,h];rfl
 |false=>
  have hks:ks=[.b]:=by simpa using iW
  subst hks
  have hv:∃ b,d.ev fr=.b b:=by
   cases hq:d.ev fr<;>rw [hq] at zT<;>simp [V.row] at zT<;>subst zT
   all_goals (cases ds with
    |nil=>simp [eB] at hr
    |cons q qs=>cases q<;>first|exact ⟨_,rfl⟩|simp [eB,vK] at hr)
  have hu:∃ b,e.ev fr=.b b:=by
   cases hq:e.ev fr<;>rw [hq] at kR<;>simp [V.row] at kR<;>subst kR
   all_goals (cases cs with
    |nil=>simp [eB] at hr
    |cons q qs=>cases q<;>first|exact ⟨_,rfl⟩|simp [eB,vK] at hr)
  obtain ⟨b1,hv⟩:=hv
  obtain ⟨b2,hu⟩:=hu
  rw [hv] at r1
  rw [hu] at r2
  have r1:=r1.bool
  have r2:=r2.bool
  rw [r1,r2] at h
  refine fin (by rw [r1,eqGuard_at_bool];rfl) ?_
  rw [r1,r2]
  subst Ia
  cases neg<;>simp [binOp,h]
end
open Go
section
variable {P:Program} {o:Oper} {a:Act} {E:Env} {N:Nat} {st:St} {w:World} {fr:Fr} {next:Act->World->Prop} {Q:Exit->Act->World->Prop} {K:R->Prop}
theorem JT (len cap:Nat) {lo hi mx:Option Value} {l h m:Int} (hh:∃ k,hi=some (.int k h)) (hm:∃ k,mx=some (.int k m)) (hl:(lo=none/\l=0)\/∃ k,lo=some (.int k l))
 (h0:0<=l) (h1:l<=h) (h2:h<=m) (h3:m<=cap):(Instr.sliceBounds true len cap lo hi mx).run P w=.ok (l.toNat,h.toNat,m.toNat) w:=by
 have c0:0<=m:=by omega
 have c1:0<=h:=by omega
 have d1:max m 0=m:=by omega
 have d2:max h 0=h:=by omega
 obtain ⟨k,rfl⟩:=hh
 obtain ⟨k',rfl⟩:=hm
 have n1:¬m<h:=by omega
 have n2:¬h<l:=by omega
 rcases hl with ⟨rfl,rfl⟩|⟨k2,rfl⟩<;>simp [Instr.sliceBounds,run_sliceBound,h0,h1,h2,h3,c0,c1,d1,d2]
theorem Mg {t el:TypeId} {x:Operand} {lo hi mx:Option Operand} {d:bL} {l h m:Option bL} {sz:Nat} (ho:o.op=.slice t x lo hi mx) (hu:P.underlying t=some (.slice el)) (hz:(P.info? el).map (·.size)=some sz) (JH:0<sz)
 (hx:eL x d=true) (O6:vO lo l=true) (Wl:vO hi h=true) (hmx:vO mx m=true) (hhs:h.isSome=true) (hms:m.isSome=true)
 (hs:cH E st w) (hf:bB E N fr a) (hw:(step (.yQ sz d l h m) fr st).wp (aC P) K) (hc:fV E st w o a next K):o.wp P a w next Q:=by
 have r1:=bG hx hf
 cases hq:P.info? el with
 |none=>simp [hq] at hz
 |some i=>
 have Ny:i.size=sz:=by simpa [hq] using hz
 obtain ⟨h1,rfl⟩:=Option.isSome_iff_exists.1 hhs
 obtain ⟨m1,rfl⟩:=Option.isSome_iff_exists.1 hms
 simp only [step] at hw
 split at hw
 · exact hw.elim
 · split at hw
   · exact hw.elim
   · exact hw.elim
 · rename_i k eD off len e1
   rw [e1] at r1
   split at hw
   case isFalse=>exact hw.elim
   rename_i Ej
   subst Ej
   unfold T.opt at hw
   split at hw
   case h_2=>exact hw.elim
   rename_i h' UW
   split at hw
   case h_2=>exact hw.elim
   rename_i l' y9
   obtain ⟨ob,eO,hw⟩:=hw
   dsimp only at hw
   split at hw
   case h_2=>exact hw.elim
   rename_i eW es
   split at hw
   case isFalse=>exact hw.elim
   rename_i Ej
   subst Ej
   split at hw
   case h_2=>exact hw.elim
   rename_i m' hm'
   obtain ⟨vJ,hw⟩:=hw
   simp only [Bool.and_eq_true,decide_eq_true_eq] at vJ
   obtain ⟨⟨⟨c1,c2⟩,c3⟩,c4⟩:=vJ
   have b1:∃ k,hi.map a.eval=some (.int k h'):=by
    rcases eJ (n:=len) Wl hf UW with ⟨_,q,_⟩|q
    · cases q
    · exact q
   have b3:∃ k,mx.map a.eval=some (.int k m'):=by
    rcases eJ (n:=0) (l:=m') hmx hf hm' with ⟨_,q,_⟩|q
    · cases q
    · exact q
   have b2:=eJ O6 hf y9
   generalize hv:a.eval x=y at r1
   cases r1 with
   |deep hd=>cases hd
   |ms _ _ _ _ ad cap hk Dv hh Du ha=>
    obtain ⟨hl,cells,ty,fz,q1,q2,q3,q4,q5⟩:=hs.obj k _ eO
    have jE:=dA hl
    have mV:es.length<=off+cap:=by
     have:es.length*eW<=(off+cap)*eW:=by omega
     exact Nat.le_of_mul_le_mul_right this JH
    have hb:=JT (P:=P) (w:=w) len cap (lo:=lo.map a.eval) (hi:=hi.map a.eval) (mx:=mx.map a.eval) (l:=l') (h:=h') (m:=m') b1 b3 (b2.imp (fun q=>⟨q.1,q.2.2⟩) id) c1 c2 c3 (by omega)
    have eI:(execOp a.eval o).run P w=.ok (.value (.slice (if m'.toNat=l'.toNat then some ad else (some ad).map (·.add (l'.toNat*eW))) (h'.toNat - l'.toNat) (m'.toNat - l'.toNat))) w:=by
     simp [execOp,ho,hv,Instr.sliceAt,Instr.slice,run_underlying hu,hb,sizeOf,typeInfo,hq,Ny]
    exact aX eI (hc.same hs hw (.gD _))
 · exact hw.elim
end
end Go.Eng
