/-
Each operation of the model does what the abstract step says (part eleven: copy, clear, min and max, maps, calls).
-/
import Derived.Test.YtdjbjnnfmkoceaaGreatY01
import Derived.Laws.StructEq
import Derived.ChangeKeysEq
set_option linter.unusedVariables false
set_option linter.unusedSimpArgs false
namespace Go.Eng
open Go
section
variable {P:Program} {o:Oper} {a:Act} {E:Env} {N:Nat} {st:St} {w:World} {fr:Fr} {next:Act->World->Prop} {Q:Exit->Act->World->Prop} {K:R->Prop}
theorem gX.take {cs:List V} {xs:List Value} (hr:gX E cs xs) (n:Nat):gX E (cs.take n) (xs.take n):=by
 intro j v hj
 rw [List.getElem?_take] at hj ⊢
 split at hj
 · rename_i h
   rw [if_pos h]
   exact hr j v hj
 · cases hj
theorem e8:Rel E (.bC []) (.tuple #[]):=.bC _ _ rfl (fun j v x hj=>by simp at hj)
theorem bQ.anW (hs:bQ E st w) {k:Key} {sz:Nat} {es ds:List (List V)} (eQ:st.get k=some (.arr sz es)) {xs:List Value} {off:Nat} (hd:∀ e∈ds,e.length=sz) (qM:off+ds.length<=es.length)
 (Q5:xs.length=ds.length*sz) (hr:gX (E.Kd k.rD) ds.flatten xs) (h1:∀ x∈xs,x.oneCell'=true):
 bQ E (st.set k (.arr sz (es.take off++ds++es.drop (off+ds.length)))) (w.setCells (E.μ k).bI ((E.μ k).base+off*sz) xs)/\
 Ext E st w E (st.set k (.arr sz (es.take off++ds++es.drop (off+ds.length)))) (w.setCells (E.μ k).bI ((E.μ k).base+off*sz) xs)/\
 w.there (E.μ k).bI ((E.μ k).base+off*sz) xs.length:=by
 obtain ⟨hl,cells,ty,fz,r1,r2,r3,r4,r5⟩:=hs.obj k _ eQ
 have UK:=cF hl
 have UL:=cF hd
 have hm1:(off+ds.length)*sz<=es.length*sz:=Nat.mul_le_mul_right _ qM
 rw [Nat.add_mul] at hm1
 have Ik:=PT hl hd qM
 have gU:=fV.written r1 r2 r3 r4 r5 (off:=off*sz) (vs:=ds.flatten) (xs:=xs) (by rw [Env.tQ];exact hr.anK (by rw [Q5,UL])) h1 (by omega)
 rw [<-Ik] at gU
 have Ky:∀ e∈es.take off++ds++es.drop (off+ds.length),e.length=sz:=by
  intro e he
  rcases List.mem_append.1 he with h|h
  · rcases List.mem_append.1 h with h|h
    · exact hl e (List.mem_of_mem_take h)
    · exact hd e h
  · exact hl e (List.mem_of_mem_drop h)
 obtain ⟨s1,s2⟩:=hs.write eQ r1 r4 (pos:=(E.μ k).base+off*sz) (xs:=xs) (by omega) (by omega) (.arr sz (es.take off++ds++es.drop (off+ds.length))) ⟨Ky,gU⟩
 exact ⟨s1,s2,Row.there r1 r2 (by omega)⟩
theorem tZ {b c:Nat} {xs:List Value} (ht:w.there b c xs.length) (h1:∀ y∈xs,y.oneCell'=true):(storeCells ⟨b,c,none⟩ xs).run P w=.ok () (w.setCells b c xs):=by
 have:=run_storeCells_cells (P:=P) b c xs 0 w (fun j hj=>by simpa using (ht j hj).1) (fun j hj=>by simpa using (ht j hj).2) h1
 simpa using this
theorem Ri {x y:Operand} {d e:bH} {ts:Array TypeId} {t el:TypeId} {sz:Nat} (ho:o.op=.call { callee:=.builtin .copy,args:=#[x,y],argTypes:=ts }) (ht:ts[0]? =some t) (hu:P.underlying t=some (.slice el))
 (hz:(P.info? el).map (·.size)=some sz) (hx:cZ x d=true) (hy:cZ y e=true)
 (hs:bQ E st w) (hf:aS E N fr a) (hw:(step (.copy sz d e) fr st).wp (aE P) K) (hc:eX E st w o a next K):o.wp P a w next Q:=by
 have r1:=aQ hx hf
 have r2:=aQ hy hf
 cases hq:P.info? el with
 |none=>simp [hq] at hz
 |some i=>
 have hi:i.size=sz:=by simpa [hq] using hz
 simp only [step] at hw
 obtain ⟨src,xs,hw,rE⟩:=elems_ok (P:=P) hs r2 hw
 split at hw
 case h_2=>exact hw.elim
 rename_i k eD off len e1
 rw [e1] at r1
 split at hw
 case isFalse=>exact hw.elim
 rename_i C9
 subst C9
 obtain ⟨ds,iV,ob,eQ,hw⟩:=hw
 dsimp only at hw
 split at hw
 case h_2=>exact hw.elim
 rename_i eP es
 split at hw
 case isFalse=>exact hw.elim
 rename_i C9
 subst C9
 obtain ⟨qM,hw⟩:=hw
 have qM:off+len<=es.length:=by simpa using qM
 obtain ⟨EJ,Kx,Oj⟩:=lP iV
 have dZ:∀ e∈src.take len,e.length=eP:=fun e he=>rE.OK e (List.mem_of_mem_take he)
 have Oj:=Oj dZ
 have hn:ds.length=min len src.length:=by rw [Kx,List.length_take]
 have Q5:(xs.take (ds.length*eP)).length=ds.length*eP:=by
  rw [List.length_take,rE.C4]
  have:ds.length*eP<=src.length*eP:=Nat.mul_le_mul_right _ (by omega)
  omega
 have htk:src.take len=src.take ds.length:=by rw [hn,Nat.min_comm,List.take_eq_take_iff];omega
 have Us:gX E (src.take len).flatten (xs.take (ds.length*eP)):=by
  rw [htk,lH rE.OK]
  exact rE.rel.take _
 have Oi:=Us.own EJ (by rw [Q5,cF dZ,List.length_take,hn])
 have h1:∀ y∈xs.take (ds.length*eP),y.oneCell'=true:=fun y hy=>rE.one y (List.mem_of_mem_take hy)
 obtain ⟨s1,s2,s3⟩:=hs.anW eQ Oj (off:=off) (by omega) Q5 Oi h1
 have B9:=rE.first w rfl ds.length (by omega)
 have hlen:=rE.len w
 generalize hv:a.eval x=y at r1
 cases r1 with
 |deep hd=>cases hd
 |ms _ _ _ _ ad cap hk Q4 hh EI ha=>
 refine aP (x:=goInt ds.length) ?_ (hc _ _ E _ _ hw s1 s2 (.deep (.i _ _)))
 have axL:Nat.min src.length len=ds.length:=by rw [hn];exact Nat.min_comm _ _
 have CA:(storeCells ad (xs.take (ds.length*eP))).run P w=.ok () (w.setCells (E.μ k).bI ((E.μ k).base+off*eP) (xs.take (ds.length*eP))):=by
  rcases ha with h|h
  · have hn0:ds.length=0:=by omega
    have h0:xs.take (ds.length*eP)=[]:=by simp [hn0]
    rw [h0];rfl
  · subst h
    exact tZ s3 h1
 simp [execOp,ho,resolve,invoke,builtin,Builtin.copy_,ht,hv,run_underlying hu,hlen,sizeOf,typeInfo,hq,hi,axL,B9,CA,Result.andThen]
theorem OR {x:Operand} {d:bH} {ts:Array TypeId} {t el:TypeId} {sz bytes:Nat} {zero:List V} (ho:o.op=.call { callee:=.builtin .clear,args:=#[x],argTypes:=ts }) (ht:ts[0]? =some t) (hu:P.underlying t=some (.slice el))
 (Ij:EG P el sz bytes=true) (hzo:jX P el zero=true) (hx:cZ x d=true)
 (hs:bQ E st w) (hf:aS E N fr a) (hw:(step (.clear sz zero d) fr st).wp (aE P) K) (hc:eX E st w o a next K):o.wp P a w next Q:=by
 obtain ⟨i,z,hi,CX,jN,hby,Kw,OL,hzs⟩:=vY Ij
 obtain ⟨i',z',US,KC,UI,hr,hl,h1⟩:=gV hzo
 rw [hi] at US;cases US
 rw [CX] at KC;cases KC
 have hzl:zero.length=sz:=by omega
 have r1:=aQ hx hf
 simp only [step] at hw
 split at hw
 · rename_i e1
   rw [e1] at r1
   have hv:=r1.FY
   exact aP (x:=.tuple #[]) (by simp [execOp,ho,resolve,invoke,builtin,Builtin.clear_,ht,hv,run_underlying hu,Result.andThen]) (hc.same hs hw e8)
 · rename_i k eD off len e1
   rw [e1] at r1
   split at hw
   case isFalse=>exact hw.elim
   rename_i C9
   subst C9
   obtain ⟨ob,eQ,hw⟩:=hw
   dsimp only at hw
   split at hw
   case h_2=>exact hw.elim
   rename_i eP es
   split at hw
   case isFalse=>exact hw.elim
   rename_i C9
   subst C9
   obtain ⟨qM,hw⟩:=hw
   have qM:off+len<=es.length:=by simpa using qM
   have hlr:∀ e∈List.replicate len zero,e.length=eP:=fun e he=>by rw [(List.mem_replicate.1 he).2];exact hzl
   have hmr:=C7 (len:=len) (hr (E.Kd k.rD)) (by omega)
   have ON:=C8 (n:=len*zero.length) h1 (by omega)
   rw [hzl] at hmr ON
   have gU:=hmr.UQ ON
   have hms:(madeCells z.cells (len*eP)).toList.length=(List.replicate len zero).length*eP:=by simp [size_madeCells]
   have hm1:∀ y∈(madeCells z.cells (len*eP)).toList,y.oneCell'=true:=fun y hy=>by
    obtain ⟨j,hj⟩:=List.getElem?_of_mem hy
    rw [Array.getElem?_toList] at hj
    exact ON j y hj
   obtain ⟨s1,s2,s3⟩:=hs.anW eQ hlr (off:=off) (by rw [List.length_replicate];exact qM) hms gU hm1
   rw [List.length_replicate] at s1 s2
   generalize hv:a.eval x=y at r1
   cases r1 with
   |deep hd=>cases hd
   |ms _ _ _ _ ad cap hk Q4 hh EI ha=>
   refine aP (x:=.tuple #[]) ?_ (hc _ _ E _ _ hw s1 s2 e8)
   cases len with
   |zero=>
    have h0:(madeCells z.cells (0*eP)).toList=[]:=by simp [madeCells,Array.range_zero']
    rw [h0]
    simp [execOp,ho,resolve,invoke,builtin,Builtin.clear_,ht,hv,run_underlying hu,Result.andThen,World.setCells]
   |succ n=>
    have ha:ad=⟨(E.μ k).bI,(E.μ k).base+off*eP,none⟩:=by
     rcases ha with h|h
     · omega
     · exact h
    subst ha
    have CA:=tZ (P:=P) s3 hm1
    have hzc:Builtin.zeroCells z.cells (n+1)=madeCells z.cells ((n+1)*eP):=by simp only [Builtin.zeroCells,madeCells,hzs]
    simp [execOp,ho,resolve,invoke,builtin,Builtin.clear_,ht,hv,run_underlying hu,Result.andThen,zeroValue,typeInfo,hi,CX,hzc,CA]
 · exact hw.elim
theorem A7 {max:Bool}:∀ {vs:List V} {xs:List Value} {v u:V} {x:Value},dY E vs xs.toArray->Rel E v x->gC max v vs=some u->
 ∃ y,(match max with|true=>xs.foldlM Builtin.max2 x|false=>xs.foldlM Builtin.min2 x:Sem Value).run P w=.ok y w/\Rel E u y
 |[],xs,v,u,x,hr,hv,h=>by
  have:xs=[]:=by
   have:=hr.1
   simpa using this
  subst this
  have hu:u=v:=by simp [gC] at h;exact h.symm
  subst hu
  refine ⟨x,?_,hv⟩
  cases max<;>rfl
 |v1::vr,xs,v,u,x,hr,hv,h=>by
  have hlen:=hr.1
  cases xs with
  |nil=>simp at hlen
  |cons x1 xr=>
  have h1:Rel E v1 x1:=hr.2 0 v1 x1 rfl (by simp)
  have T5:dY E vr xr.toArray:=⟨by simpa using hlen,fun j q y hq hy=>hr.2 (j+1) q y (by simpa using hq) (by simpa using hy)⟩
  unfold gC at h
  split at h
  · cases ‹_=[]›
  · rename_i k p k' q r' heq
    cases heq
    have hv:=hv.int
    have h1:=h1.int
    subst hv;subst h1
    cases max with
    |true=>
     simp only at h
     obtain ⟨y,hy,hry⟩:=A7 (x:=.int k (if p<q then q else p)) T5 (.deep (.i _ _)) h
     refine ⟨y,?_,hry⟩
     simp only [List.foldlM_cons,Sem.run_bind,Builtin.max2,Sem.run_pure,Result.andThen_ok]
     exact hy
    |false=>
     simp only at h
     obtain ⟨y,hy,hry⟩:=A7 (x:=.int k (if q<p then q else p)) T5 (.deep (.i _ _)) h
     refine ⟨y,?_,hry⟩
     simp only [List.foldlM_cons,Sem.run_bind,Builtin.min2,Sem.run_pure,Result.andThen_ok]
     exact hy
  · cases h
theorem Rj {max:Bool} {xs:Array Operand} {ds:List bH} {ts:Array TypeId} (ho:o.op=.call { callee:=.builtin (if max then .max else .min),args:=xs,argTypes:=ts }) (hx:CU xs.toList ds=true)
 (hs:bQ E st w) (hf:aS E N fr a) (hw:(step (.zX max ds) fr st).wp (aE P) K) (hc:eX E st w o a next K):o.wp P a w next Q:=by
 have r1:=Af hf hx
 simp only [step] at hw
 split at hw
 case h_2=>exact hw.elim
 rename_i v r e1
 rw [e1] at r1
 unfold T.opt at hw
 split at hw
 case h_2=>exact hw.elim
 rename_i u hu
 have hlen:=r1.1
 cases hl:xs.toList.map a.eval with
 |nil=>rw [hl] at hlen;simp at hlen
 |cons y ys=>
  rw [hl] at r1
  have h1:Rel E v y:=r1.2 0 v y rfl (by simp)
  have T5:dY E r ys.toArray:=⟨by have:=r1.1;simpa using this,fun j q z hq hz=>r1.2 (j+1) q z (by simpa using hq) (by simpa using hz)⟩
  obtain ⟨z,hz,hrz⟩:=A7 (P:=P) (w:=w) T5 h1 hu
  have hm:(xs.map a.eval).toList=y::ys:=by rw [Array.toList_map,hl]
  refine aP (x:=z) ?_ (hc.same hs hw hrz)
  cases max with
  |true=>simp only at hz;simp [execOp,ho,resolve,invoke,builtin,Builtin.max_,hl,hz,Result.andThen]
  |false=>simp only at hz;simp [execOp,ho,resolve,invoke,builtin,Builtin.min_,hl,hz,Result.andThen]
def s6 (P:Program) (kt:TypeId) (kd:Option IntKind):Bool:=
 match P.underlying kt,kd with
 |some .string,none=>true
 |some (.int q),some k=>decide (q=k)
 |_,_=>false
theorem sL {kt:TypeId} {kd:Option IntKind} (h:s6 P kt kd=true):∃ d,P.underlying kt=some d/\
 ∀ {I:zZ} {v:V} {x:Value},v.dA kd=true->eH I v x->MapKept.IsKey d x:=by
 unfold s6 at h
 split at h
 · rename_i hu
   refine ⟨_,hu,fun {I v x} hk hr=>?_⟩
   unfold V.dA at hk
   split at hk
   · cases hr;trivial
   · rename_i e1;cases e1
   · cases hk
 · rename_i q k hu
   refine ⟨_,hu,fun {I v x} hk hr=>?_⟩
   simp only [decide_eq_true_eq] at h
   subst h
   unfold V.dA at hk
   split at hk
   · rename_i e1;cases e1
   · rename_i e1
     cases e1
     simp only [decide_eq_true_eq] at hk
     subst hk
     cases hr;rfl
   · cases hk
 · cases h
theorem Rel.key {kd:Option IntKind} {v:V} {x:Value} (hk:v.dA kd=true) (h:Rel E v x):eH E.I v x:=by
 unfold V.dA at hk
 split at hk
 · cases h;assumption
 · cases h;assumption
 · cases hk
theorem Rk {I:zZ} {kd:Option IntKind} {v u:V} {x y:Value} (hv:v.dA kd=true) (hu:u.dA kd=true) (h1:eH I v x) (h2:eH I u y):rI v u=true↔x=y:=by
 unfold V.dA at hv hu
 split at hv
 · split at hu
   · cases h1;cases h2
     simp only [rI,beq_iff_eq,Value.string.injEq]
     constructor
     · rintro rfl;rfl
     · intro h
       have:=congrArg (fun b=>b.data.toList) h
       simpa [str] using this
   · rename_i e1;cases e1
   · cases hu
 · split at hu
   · rename_i e1;cases e1
   · rename_i e1
     cases e1
     simp only [decide_eq_true_eq] at hv hu
     subst hv;subst hu
     cases h1;cases h2
     simp [rI]
   · cases hu
 · cases hv
def vZ (E:Env) (kd:Option IntKind) (es:List (V×V)) (l:List MapEntry):Prop:=
 l.length=es.length/\∀ (j:Nat) (q:V×V) (e:MapEntry),es[j]? =some q->l[j]? =some e->eH E.I q.1 e.key/\q.1.dA kd=true/\Rel E q.2 e.val
theorem find_spec {kd:Option IntKind} {d:TypeDesc} (hd:∀ {I:zZ} {v:V} {x:Value},v.dA kd=true->eH I v x->MapKept.IsKey d x) {kv:V} {k:Value} (hkv:kv.dA kd=true) (hk:eH E.I kv k) (u:V):
 ∀ (es:List (V×V)) (l:List MapEntry) (i:Nat),vZ E kd es l->
  (Instr.findNow d k l i=some none/\zY es kv=none/\fH es kv u=es++[(kv,u)]/\Kn es kv=es)\/
  ∃ j e q,Instr.findNow d k l i=some (some (i+j,e.val))/\l[j]? =some e/\es[j]? =some q/\e.key=k/\zY es kv=some q.2/\fH es kv u=es.set j (kv,u)/\Kn es kv=es.eraseIdx j
 |[],l,i,h=>by
  have:l=[]:=List.eq_nil_of_length_eq_zero h.1
  subst this
  exact .inl ⟨rfl,rfl,rfl,rfl⟩
 |q::es,l,i,h=>by
  obtain ⟨q1,q2⟩:=q
  cases l with
  |nil=>have:=h.1;simp at this
  |cons e l=>
  obtain ⟨h1,h2,h3⟩:=h.2 0 _ e rfl rfl
  have hkd:=hd hkv hk
  have U2:=hd h2 h1
  obtain ⟨r,hr,anX⟩:=MapKept.sameNow_of_keys hkd U2
  have hq:=Rk hkv h2 hk h1
  cases r with
  |true=>
   have he:=anX.1 rfl
   have hke:rI kv q1=true:=hq.2 he
   exact .inr ⟨0,e,(q1,q2),by simp [Instr.findNow,hr],rfl,rfl,he.symm,by simp [zY,hke],by simp [fH,hke],by simp [Kn,hke]⟩
  |false=>
   have hke:rI kv q1=false:=by
    cases hb:rI kv q1 with
    |false=>rfl
    |true=>have:=anX.2 (hq.1 hb);cases this
   have hp:vZ E kd es l:=⟨by have:=h.1;simpa using this,fun j p e' hp he=>h.2 (j+1) p e' (by simpa using hp) (by simpa using he)⟩
   rcases find_spec hd hkv hk u es l (i+1) hp with ⟨a1,a2,a3,a4⟩|⟨j,e',q',a1,a2,a3,a4,a5,a6,a7⟩
   · exact .inl ⟨by simp [Instr.findNow,hr,a1],by simp [zY,hke,a2],by simp [fH,hke,a3],by simp [Kn,hke,a4]⟩
   · exact .inr ⟨j+1,e',q',by simp [Instr.findNow,hr,a1];omega,by simpa using a2,by simpa using a3,a4,by simp [zY,hke,a5],by simp [fH,hke,a6],by simp [Kn,hke,a7]⟩
theorem bQ.KH (hs:bQ E st w) {k:Key} {kd:Option IntKind} {es:List (V×V)} (eQ:st.get k=some (.mp kd es)):∃ aY clock,w.heap[(E.μ k).bI]? =some (.map aY clock)/\vZ (E.at k) kd es aY.toList:=by
 obtain ⟨aY,clock,h1,h2,h3,_⟩:=hs.obj k _ eQ
 exact ⟨aY,clock,h1,by simpa using h2,fun j q e hq he=>h3 j q e hq (by simpa using he)⟩
theorem bQ.wA (hs:bQ E st w) {k:Key} {kd:Option IntKind} {es:List (V×V)} (eQ:st.get k=some (.mp kd es)) {aY:Array MapEntry} {clock:Nat} (hb:w.heap[(E.μ k).bI]? =some (.map aY clock)):B0 aY clock:=by
 obtain ⟨BH,yH,h1,_,_,h4⟩:=hs.obj k _ eQ
 rw [hb] at h1
 cases h1
 exact h4
theorem F0 {aY:Array MapEntry} {clock:Nat} (h:B0 aY clock) (k v:Value):B0 (aY.push { key:=k,val:=v,born:=clock }) (clock+1):=by
 refine ⟨?_,?_⟩
 · intro x hx
   rw [Array.toList_push,List.mem_append,List.mem_singleton] at hx
   rcases hx with hx|rfl
   · have:=h.1 x hx;omega
   · exact Nat.lt_succ_self _
 · rw [Array.toList_push,List.map_append,List.map_cons,List.map_nil]
   refine List.nodup_append.2 ⟨h.2,by simp,?_⟩
   intro a ha b hb
   rw [List.mem_singleton] at hb
   subst hb
   obtain ⟨x,hx,rfl⟩:=List.mem_map.1 ha
   exact Nat.ne_of_lt (h.1 x hx)
theorem uA {aY:Array MapEntry} {clock:Nat} (h:B0 aY clock) (j:Nat) (k v:Value):B0 (aY.modify j fun e'=>{ e' with key:=k,val:=v }) clock:=by
 have ahH:(aY.modify j fun e'=>{ e' with key:=k,val:=v }).toList.map (·.born)=aY.toList.map (·.born):=by
  apply List.ext_getElem?
  intro i
  simp only [List.getElem?_map,Array.getElem?_toList,Array.getElem?_modify]
  split
  · rename_i hji;subst hji;cases aY[j]? <;>rfl
  · rfl
 refine ⟨fun x hx=>?_,by rw [ahH];exact h.2⟩
 have hm:x.born∈aY.toList.map (·.born):=by rw [<-ahH];exact List.mem_map_of_mem hx
 obtain ⟨y,hy,he⟩:=List.mem_map.1 hm
 rw [<-he]
 exact h.1 y hy
theorem OS {aY:Array MapEntry} {clock:Nat} (h:B0 aY clock) (j:Nat):B0 (aY.eraseIdxIfInBounds j) clock:=by
 unfold Array.eraseIdxIfInBounds
 split
 · rw [B0,Array.toList_eraseIdx]
   exact ⟨fun x hx=>h.1 x (List.mem_of_mem_eraseIdx hx),h.2.sublist ((List.eraseIdx_sublist _ _).map _)⟩
 · exact h
theorem Env.aeQ (E:Env) (k:Key):(E.at k).I=E.I:=by cases k<;>rfl
theorem bQ.yI (hs:bQ E st w) {k:Key} {kd:Option IntKind} {es:List (V×V)} (eQ:st.get k=some (.mp kd es)) {aY:Array MapEntry} {clock:Nat} (hb:w.heap[(E.μ k).bI]? =some (.map aY clock))
 (BH:Array MapEntry) (yH:Nat) (sD:List (V×V)) (hbn:B0 BH yH) (hp:vZ (E.at k) kd sD BH.toList):
 bQ E (st.set k (.mp kd sD)) { w with heap:=w.heap.setIfInBounds (E.μ k).bI (.map BH yH) }/\Ext E st w E (st.set k (.mp kd sD)) { w with heap:=w.heap.setIfInBounds (E.μ k).bI (.map BH yH) }:=by
 obtain ⟨q1,q2⟩:=MapKept.heap_set (o':=.map BH yH) hb
 refine hs.set eQ _ (by simp) (fun b dX=>q2 b dX) rfl rfl rfl (fun j x hx=>?_) ⟨BH,yH,q1,by simpa using hp.1,fun j q e hq he=>hp.2 j q e hq (by simpa using he),hbn⟩
 have:=hs.jR _ _ _ hx
 simp [bF,hb] at this
theorem U3 {t kt el:TypeId} {x y:Operand} {d e:bH} {kd:Option IntKind} {zero:V} {ok:Bool} {i:TypeInfo} {z:Value} (ho:o.op=.lookup t x y ok) (hu:P.underlying t=some (.map kt el)) (hk:s6 P kt kd=true)
 (hi:P.info? el=some i) (hz:i.zero=some z) (hzo:qL 4 z zero=true) (hx:cZ x d=true) (hy:cZ y e=true)
 (hs:bQ E st w) (hf:aS E N fr a) (hw:(step (.Ui kd zero d e ok) fr st).wp (aE P) K) (hc:eX E st w o a next K):o.wp P a w next Q:=by
 have r1:=aQ hx hf
 have r2:=aQ hy hf
 obtain ⟨dd,FX,yJ⟩:=sL hk
 simp only [step] at hw
 split at hw
 case h_2=>exact hw.elim
 rename_i j9
 have U4:=r2.key j9
 have U5:=yJ j9 U4
 have pair:∀ {v:V} {b:Bool} {u:Value},Rel E v u->Rel E (.bC [v,.b b]) (.tuple #[u,.bool b]):=by
  intro v b u hr
  refine .bC _ _ rfl fun j v' x' h1 h2=>?_
  match j with
  |0=>simp at h1 h2;subst h1;subst h2;exact hr
  |1=>simp at h1 h2;subst h1;subst h2;exact .deep (.b _)
  |j+2=>simp at h1
 split at hw
 · rename_i e1
   rw [e1] at r1
   generalize hv:a.eval x=y' at r1
   cases r1 with
   |deep hd=>cases hd
   |eG=>
    have sJ:=MapKept.run_checkKey (w:=w) (P:=P) FX U5 true 9999
    have F1:(Instr.findKey kt (a.eval y) []).run P w=.ok none w:=MapKept.run_findKey FX (by rfl)
    unfold yE at hw
    cases ok with
    |true=>
     refine aP (x:=.tuple #[z,.bool false]) ?_ (hc.same hs (hw.1 rfl) (pair (iZ hzo E)))
     simp [execOp,ho,hv,Instr.lookup,run_underlying hu,sJ,F1,zeroValue,typeInfo,hi,hz]
    |false=>
     refine aP (x:=z) ?_ (hc.same hs (hw.1 rfl) (iZ hzo E))
     simp [execOp,ho,hv,Instr.lookup,run_underlying hu,sJ,F1,zeroValue,typeInfo,hi,hz]
 · rename_i k e1
   rw [e1] at r1
   obtain ⟨ob,eQ,hw⟩:=hw
   dsimp only at hw
   split at hw
   case h_2=>exact hw.elim
   rename_i AX es
   split at hw
   case isFalse=>exact hw.elim
   rename_i Iq
   subst Iq
   generalize hv:a.eval x=y' at r1
   cases r1 with
   |deep hd=>cases hd
   |m _ hhk=>
    obtain ⟨aY,clock,hb,hp⟩:=hs.KH eQ
    have sJ:=fun b=>MapKept.run_checkKey (w:=w) (P:=P) FX U5 b 9999
    have hg:=MapKept.run_getObj_map (P:=P) hb
    rcases find_spec (E:=E.at k) yJ j9 (by rw [Env.aeQ];exact U4) .bL es aY.toList 0 hp with ⟨a1,a2,_,_⟩|⟨j,en,q,a1,a2,a3,a4,a5,_,_⟩
    · have F1:=MapKept.run_findKey (P:=P) (w:=w) FX a1
      unfold yE at hw
      rw [a2] at hw
      cases ok with
      |true=>
       refine aP (x:=.tuple #[z,.bool false]) ?_ (hc.same hs (hw.1 rfl) (pair (iZ hzo E)))
       simp [execOp,ho,hv,Instr.lookup,run_underlying hu,hg,sJ,F1,zeroValue,typeInfo,hi,hz]
      |false=>
       refine aP (x:=z) ?_ (hc.same hs (hw.1 rfl) (iZ hzo E))
       simp [execOp,ho,hv,Instr.lookup,run_underlying hu,hg,sJ,F1,zeroValue,typeInfo,hi,hz]
    · have F1:=MapKept.run_findKey (P:=P) (w:=w) FX a1
      have Ag:=(hp.2 j q en a3 a2).2.2.mono (E.Aa k)
      unfold yE at hw
      rw [a5] at hw
      cases ok with
      |true=>
       refine aP (x:=.tuple #[en.val,.bool true]) ?_ (hc.same hs (hw.2 _ rfl) (pair Ag))
       simp [execOp,ho,hv,Instr.lookup,run_underlying hu,hg,sJ,F1]
      |false=>
       refine aP (x:=en.val) ?_ (hc.same hs (hw.2 _ rfl) Ag)
       simp [execOp,ho,hv,Instr.lookup,run_underlying hu,hg,sJ,F1]
 · exact hw.elim
theorem KI {g:Bool} {v u:V} {x:Value} (h:Km g v=some u) (hr:Rel E v x):Rel (E.Kd g) u x:=by
 cases g with
 |true=>exact Ae h hr
 |false=>simp only [Km,Option.some.injEq] at h;subst h;exact hr
theorem F2 {t kt el:TypeId} {x y v:Operand} {d e c:bH} {kd:Option IntKind} (ho:o.op=.mapUpdate t x y v\/o.op=.insert t x y v) (hu:P.underlying t=some (.map kt el)) (hk:s6 P kt kd=true)
 (hx:cZ x d=true) (hy:cZ y e=true) (hv:cZ v c=true)
 (hs:bQ E st w) (hf:aS E N fr a) (hw:(step (.EA kd d e c) fr st).wp (aE P) K) (hc:eX E st w o a next K):o.wp P a w next Q:=by
 have r1:=aQ hx hf
 have r2:=aQ hy hf
 have r3:=aQ hv hf
 obtain ⟨dd,FX,yJ⟩:=sL hk
 simp only [step] at hw
 split at hw
 case h_2=>exact hw.elim
 rename_i j9
 have U4:=r2.key j9
 have U5:=yJ j9 U4
 split at hw
 case h_2=>exact hw.elim
 rename_i k e1
 rw [e1] at r1
 obtain ⟨ob,eQ,hw⟩:=hw
 dsimp only at hw
 split at hw
 case h_2=>exact hw.elim
 rename_i AX es
 split at hw
 case isFalse=>exact hw.elim
 rename_i Iq
 subst Iq
 unfold T.opt at hw
 split at hw
 case h_2=>exact hw.elim
 rename_i u U6
 have hru:=KI U6 r3
 rw [<-Env.tQ] at hru
 generalize Om:a.eval x=y' at r1
 cases r1 with
 |deep hd=>cases hd
 |m _ hhk=>
  obtain ⟨aY,clock,hb,hp⟩:=hs.KH eQ
  have sJ:=fun b=>MapKept.run_checkKey (w:=w) (P:=P) FX U5 b 9999
  have hg:=MapKept.run_getObj_map (P:=P) hb
  have r2a:eH (E.at k).I (e.ev fr) (a.eval y):=by rw [Env.aeQ];exact U4
  rcases find_spec (E:=E.at k) yJ j9 r2a u es aY.toList 0 hp with ⟨a1,a2,a3,_⟩|⟨j,en,q,a1,a2,a3,a4,a5,a6,_⟩
  · have F1:=MapKept.run_findKey (P:=P) (w:=w) FX a1
    dsimp only at hw
    rw [a3] at hw
    obtain ⟨s1,s2⟩:=hs.yI eQ hb (aY.push { key:=a.eval y,val:=a.eval v,born:=clock }) (clock+1) (es++[(e.ev fr,u)]) (F0 (hs.wA eQ hb) _ _) ⟨by simp [<-hp.1],fun j q en hq mQ=>by
     rw [Array.toList_push] at mQ
     rw [List.getElem?_append] at hq mQ
     have hlen:=hp.1
     split at hq
     · rename_i dZ
       rw [if_pos (by omega)] at mQ
       exact hp.2 j q en hq mQ
     · rename_i dZ
       rw [if_neg (by omega)] at mQ
       have h0:j - es.length=0:=by
        have:=(List.getElem?_eq_some_iff.1 hq).1
        simp at this;omega
       rw [h0] at hq
       rw [hlen,h0] at mQ
       simp at hq mQ
       subst hq;subst mQ
       exact ⟨r2a,j9,hru⟩⟩
    refine CV ?_ (hc _ _ E _ _ hw s1 s2 e8)
    rcases ho with ho|ho<;>simp [execOp,ho,Om,Instr.mapUpdate,run_underlying hu,hg,sJ,F1,MapKept.run_setObj_map _ hb]
  · have F1:=MapKept.run_findKey (P:=P) (w:=w) FX a1
    have hj:aY[j]? =some en:=by simpa using a2
    dsimp only at hw
    rw [a6] at hw
    obtain ⟨s1,s2⟩:=hs.yI eQ hb (aY.modify j fun e'=>{ e' with key:=a.eval y,val:=a.eval v }) clock (es.set j (e.ev fr,u)) (uA (hs.wA eQ hb) _ _ _) ⟨by simp [<-hp.1],fun i q' en' hq mQ=>by
     rw [Array.getElem?_toList,Array.getElem?_modify] at mQ
     by_cases An:j=i
     · subst An
       rw [if_pos rfl,hj] at mQ
       simp only [Option.map_some,Option.some.injEq] at mQ
       have dZ:=(List.getElem?_eq_some_iff.1 a3).1
       rw [List.getElem?_set_self dZ] at hq
       simp only [Option.some.injEq] at hq
       subst hq;subst mQ
       exact ⟨r2a,j9,hru⟩
     · rw [if_neg An] at mQ
       rw [List.getElem?_set_ne An] at hq
       exact hp.2 i q' en' hq (by simpa using mQ)⟩
    refine CV ?_ (hc _ _ E _ _ hw s1 s2 e8)
    rcases ho with ho|ho<;>simp [execOp,ho,Om,Instr.mapUpdate,run_underlying hu,hg,sJ,F1,hj,a4,MapKept.run_keyThatStays U5,MapKept.run_setObj_map _ hb]
theorem Rl {kd:Option IntKind} {es:List (V×V)} {l:List MapEntry} (hp:vZ E kd es l) {j:Nat} (_hj:j<l.length):vZ E kd (es.eraseIdx j) (l.eraseIdx j):=by
 have hlen:=hp.1
 refine ⟨by rw [List.length_eraseIdx,List.length_eraseIdx,hlen],fun i q e hq he=>?_⟩
 rw [List.getElem?_eraseIdx] at hq he
 split at hq
 · rename_i h
   rw [if_pos h] at he
   exact hp.2 _ q e hq he
 · rename_i h
   rw [if_neg h] at he
   exact hp.2 _ q e hq he
theorem KJ {ts:Array TypeId} {t kt el:TypeId} {x y:Operand} {d e:bH} {kd:Option IntKind} (ho:o.op=.call { callee:=.builtin .delete,args:=#[x,y],argTypes:=ts }) (ht:ts[0]? =some t) (hu:P.underlying t=some (.map kt el)) (hk:s6 P kt kd=true)
 (hx:cZ x d=true) (hy:cZ y e=true)
 (hs:bQ E st w) (hf:aS E N fr a) (hw:(step (.delete kd d e) fr st).wp (aE P) K) (hc:eX E st w o a next K):o.wp P a w next Q:=by
 have r1:=aQ hx hf
 have r2:=aQ hy hf
 obtain ⟨dd,FX,yJ⟩:=sL hk
 simp only [step] at hw
 split at hw
 case h_2=>exact hw.elim
 rename_i j9
 have U4:=r2.key j9
 have U5:=yJ j9 U4
 split at hw
 · rename_i e1
   rw [e1] at r1
   generalize hv:a.eval x=y' at r1
   cases r1 with
   |deep hd=>cases hd
   |eG=>
    have sJ:=MapKept.run_checkKey (w:=w) (P:=P) FX U5 true 9999
    exact aP (x:=.tuple #[]) (by simp [execOp,ho,resolve,invoke,builtin,Builtin.delete_,ht,hv,run_underlying hu,sJ,Result.andThen]) (hc.same hs hw e8)
 · rename_i k e1
   rw [e1] at r1
   obtain ⟨ob,eQ,hw⟩:=hw
   dsimp only at hw
   split at hw
   case h_2=>exact hw.elim
   rename_i AX es
   split at hw
   case isFalse=>exact hw.elim
   rename_i Iq
   subst Iq
   generalize Om:a.eval x=y' at r1
   cases r1 with
   |deep hd=>cases hd
   |m _ hhk=>
    obtain ⟨aY,clock,hb,hp⟩:=hs.KH eQ
    have sJ:=fun b=>MapKept.run_checkKey (w:=w) (P:=P) FX U5 b 9999
    have hg:=MapKept.run_getObj_map (P:=P) hb
    have r2a:eH (E.at k).I (e.ev fr) (a.eval y):=by rw [Env.aeQ];exact U4
    rcases find_spec (E:=E.at k) yJ j9 r2a .bL es aY.toList 0 hp with ⟨a1,a2,_,a4⟩|⟨j,en,q,a1,a2,a3,a4,a5,_,a7⟩
    · have F1:=MapKept.run_findKey (P:=P) (w:=w) FX a1
      rw [a4] at hw
      obtain ⟨s1,s2⟩:=hs.yI eQ hb aY clock es (hs.wA eQ hb) hp
      refine aP (x:=.tuple #[]) ?_ (hc _ _ E _ _ hw s1 s2 e8)
      simp [execOp,ho,resolve,invoke,builtin,Builtin.delete_,ht,Om,run_underlying hu,hg,sJ,F1,MapKept.run_setObj_map _ hb,Result.andThen]
    · have F1:=MapKept.run_findKey (P:=P) (w:=w) FX a1
      rw [a7] at hw
      have dZ:=(List.getElem?_eq_some_iff.1 a2).1
      have Uu:j<aY.size:=by simpa using dZ
      have hpe:=Rl hp dZ
      have Oo:(aY.eraseIdxIfInBounds j).toList=aY.toList.eraseIdx j:=by
       unfold Array.eraseIdxIfInBounds
       rw [dif_pos Uu]
       simp
      rw [<-Oo] at hpe
      obtain ⟨s1,s2⟩:=hs.yI eQ hb (aY.eraseIdxIfInBounds j) clock (es.eraseIdx j) (OS (hs.wA eQ hb) _) hpe
      refine aP (x:=.tuple #[]) ?_ (hc _ _ E _ _ hw s1 s2 e8)
      simp [execOp,ho,resolve,invoke,builtin,Builtin.delete_,ht,Om,run_underlying hu,hg,sJ,F1,MapKept.run_setObj_map _ hb,Result.andThen]
 · exact hw.elim
theorem sM {f:Nat} {args:Array Value} (h:lF P f=true):(callFunc f args).run P w=.ok (.enter f args) w:=by
 unfold lF at h
 split at h
 · rename_i fn U7
   simp only [Bool.and_eq_true,Bool.not_eq_true',beq_eq_false_iff_ne] at h
   obtain ⟨h1,h2⟩:=h
   have h3:fn.body.isNone=false:=by cases hb:fn.body<;>simp [hb] at h1 ⊢
   have h4:¬fn.body=none:=by intro h;rw [h] at h1;cases h1
   simp [callFunc,U7,h2,h4]
 · cases h
theorem KK {f:Nat} {args:Array Value} (h:(execOp a.eval o).run P w=.ok (.enter f args) w) (hc:Calls P f args w fun
 |.returned v,w''=>next (a.put o.dst v) w''
 |.panicked chain,w''=>Q (.panic chain) a w''
 |.outgrown,_=>LetsOut Q):o.wp P a w next Q:=by
 unfold Oper.wp
 rw [h,Oper.upon_enter]
 exact hc
theorem Rm {f:Nat} {xs:Array Operand} {ds:List bH} {ts:Array TypeId} (ho:o.op=.call { callee:=.value (.func f),args:=xs,argTypes:=ts }) (hx:CU xs.toList ds=true)
 (hs:bQ E st w) (hf:aS E N fr a) (hw:(step (.call f ds) fr st).wp (aE P) K) (hc:eX E st w o a next K):o.wp P a w next Q:=by
 have r1:=Af hf hx
 simp only [step] at hw
 unfold T.opt at hw
 split at hw
 case h_2=>exact hw.elim
 rename_i vs hvs
 have hb:lF P f=true:=hw.1
 have e:(xs.toList.map a.eval).toArray=xs.map a.eval:=by
  apply Array.ext'
  simp
 rw [e] at r1
 refine KK (f:=f) (args:=xs.map a.eval) ?_ (aE.use hs hvs r1 hw (fun v h' E' w' x hk s1 s2 hr=>hc v _ E' w' x hk s1 s2 hr))
 simp [execOp,ho,resolve,Act.eval,Deferred.ofValue,invoke,sM hb]
theorem OT {f:Operand} {g:bH} {xs:Array Operand} {ds:List bH} {ts:Array TypeId} (ho:o.op=.call { callee:=.value f,args:=xs,argTypes:=ts }) (hg:cZ f g=true) (hx:CU xs.toList ds=true)
 (hs:bQ E st w) (hf:aS E N fr a) (hw:(step (.xS g ds) fr st).wp (aE P) K) (hc:eX E st w o a next K):o.wp P a w next Q:=by
 have r0:=aQ hg hf
 have r1:=Af hf hx
 simp only [step] at hw
 split at hw
 case h_2=>exact hw.elim
 rename_i n first cap e1
 rw [e1] at r0
 unfold T.opt at hw
 split at hw
 case h_2=>exact hw.elim
 rename_i vs hvs
 have hb:lF P n=true:=hw.1
 have e:(xs.toList.map a.eval).toArray=xs.map a.eval:=by
  apply Array.ext'
  simp
 rw [e] at r1
 generalize hv:a.eval f=y at r0
 cases r0 with
 |deep hd=>cases hd
 |fn _ _ _ fa ca h1 h2 h3 h4=>
  have B7:dY E (first++bH.BB fr ds++cap) (fa++xs.map a.eval++ca):=(dY.append (dY.append ⟨h1,h3⟩ r1) ⟨h2,h4⟩)
  refine KK (f:=n) (args:=fa++xs.map a.eval++ca) ?_ (aE.use hs hvs B7 hw (fun v h' E' w' x hk s1 s2 hr=>hc v _ E' w' x hk s1 s2 hr))
  simp [execOp,ho,resolve,hv,Deferred.ofValue,invoke,sM hb]
end
open Go
def PW (row:Bool) (ks:List CK):Option Nat:=if row then some ks.length else none
def lU (P:Program) (lay:TypeId->Option (Bool×List CK)):List Field->Nat->Option (List CK)
 |[],_=>some []
 |f::fs,acc=>match lay f.type with
  | some (row, ks) => if f.name ≠ "_" ∧ f.offset = acc ∧ 0 < ks.length ∧ tO P f.type (PW row ks) = true then
     (match lU P lay fs (acc+ks.length) with
     |some rest=>some (ks++rest)
     |none=>none)
    else none
  |none=>none
def Dd (P:Program):Nat->TypeId->Option (Bool×List CK)
 |0,_=>none
 |n+1,t=>match P.underlying t with
  |some .bool=>some (false,[.b])
  |some (.int _)=>some (false,[.i])
  |some .string=>some (false,[.s])
  |some (.struct fs)=>if P.stoodInHeld t=true then none else match lU P (Dd P n) fs.toList 0 with
   |some ks=>some (true,ks)
   |none=>none
  |some (.array len e)=>match Dd P n e with
   |some (row,ks)=>if (P.info? e).map (·.size)=some ks.length/\0<ks.length/\tO P e (PW row ks)=true then some (true,(List.replicate len ks).flatten) else none
   |none=>none
  |_=>none
theorem pA:∀ {k1 k2:List CK} {cs ds:List V} {r:Bool},cH (k1++k2) cs ds=some r->
 k1.length<=cs.length/\k1.length<=ds.length/\∃ r1 r2,cH k1 (cs.take k1.length) (ds.take k1.length)=some r1/\cH k2 (cs.drop k1.length) (ds.drop k1.length)=some r2/\r=(r1&&r2)
 |[],k2,cs,ds,r,h=>⟨Nat.zero_le _,Nat.zero_le _,true,r,by simp [cH],by simpa using h,by simp⟩
 |k::k1,k2,cs,ds,r,h=>by
  cases cs with
  |nil=>simp [cH] at h
  |cons c cs=>
  cases ds with
  |nil=>simp [cH] at h
  |cons d ds=>
  simp only [List.cons_append,cH] at h
  split at h
  · rename_i a b ha hb
    simp only [Option.some.injEq] at h
    subst h
    obtain ⟨h1,h2,r1,r2,h3,h4,rfl⟩:=pA hb
    refine ⟨by simp [h1],by simp [h2],a&&r1,r2,by simp [cH,ha,h3],by simpa using h4,by simp [Bool.and_assoc]⟩
  · cases h
section
variable {P:Program} {o:Oper} {a:Act} {E:Env} {N:Nat} {st:St} {w:World} {fr:Fr} {next:Act->World->Prop} {Q:Exit->Act->World->Prop} {K:R->Prop}
def aeR (P:Program) (E:Env) (d:Nat) (lay:TypeId->Option (Bool×List CK)):Prop:=
 ∀ (t:TypeId) (row:Bool) (ks:List CK),lay t=some (row,ks)->∀ (w:World) (v u:V) (x y:Value) (cs ds:List V) (r:Bool),Rel E v x->Rel E u y->v.row row=some cs->u.row row=some ds->cH ks cs ds=some r->
  (Op.equalIn d t x y).run P w=.ok r w
theorem PX {d:Nat} {lay:TypeId->Option (Bool×List CK)} (IH:aeR P E d lay) {t:TypeId} {row:Bool} {ks:List CK} (hl:lay t=some (row,ks)) (hz:tO P t (PW row ks)=true) (h1k:row=false->ks.length=1) (C5:0<ks.length)
 {cs ds:List V} {xs ys:Array Value} (hx:dY E cs xs) (hy:dY E ds ys) (Oq:∀ (j:Nat) (x:Value),xs[j]? =some x->x.oneCell'=true) (T7:∀ (j:Nat) (x:Value),ys[j]? =some x->x.oneCell'=true)
 {off:Nat} {r:Bool} (hlc:ks.length<=(cs.drop off).length) (hld:ks.length<=(ds.drop off).length) (hr:cH ks ((cs.drop off).take ks.length) ((ds.drop off).take ks.length)=some r) (w:World):
 ∃ x y,(part t xs off).run P w=.ok x w/\(part t ys off).run P w=.ok y w/\(Op.equalIn d t x y).run P w=.ok r w:=by
 cases row with
 |true=>
  have hz:tO P t (some ks.length)=true:=hz
  have ldc:∀ {l:List V},ks.length<=(l.drop off).length->off<=l.length->dF l off (some ks.length)=some (.agg ((l.drop off).take ks.length)):=by
   intro l h h'
   simp only [dF]
   rw [if_pos (by simp at h;omega)]
  have OD:off<=cs.length:=by rw [List.length_drop] at hlc;omega
  have ho2:off<=ds.length:=by rw [List.length_drop] at hld;omega
  obtain ⟨x,p1,q1⟩:=rL (w:=w) hz hx Oq (ldc hlc OD)
  obtain ⟨y,p2,q2⟩:=rL (w:=w) hz hy T7 (ldc hld ho2)
  exact ⟨x,y,p1,p2,IH t true ks hl w _ _ x y _ _ r q1 q2 rfl rfl hr⟩
 |false=>
  have hz:tO P t none=true:=hz
  have h1:=h1k rfl
  obtain ⟨k,rfl⟩:∃ k,ks=[k]:=by
   match ks,h1 with
   |[k],_=>exact ⟨k,rfl⟩
  simp only [List.length_singleton] at hr hlc hld
  have get:∀ {l:List V},1<=(l.drop off).length->∃ c,l[off]? =some c/\(l.drop off).take 1=[c]:=by
   intro l h
   simp only [List.length_drop] at h
   have dZ:off<l.length:=by omega
   refine ⟨l[off],by simp [dZ],?_⟩
   rw [List.drop_eq_getElem_cons dZ]
   rfl
  obtain ⟨c,hc1,hc2⟩:=get hlc
  obtain ⟨d',EJ,Kx⟩:=get hld
  rw [hc2,Kx] at hr
  obtain ⟨x,p1,q1⟩:=rL (w:=w) hz hx Oq hc1
  obtain ⟨y,p2,q2⟩:=rL (w:=w) hz hy T7 EJ
  refine ⟨x,y,p1,p2,IH t false [k] hl w c d' x y [c] [d'] r q1 q2 ?_ ?_ hr⟩
  · cases c<;>first|rfl|(cases k<;>simp [cH,oY] at hr)
  · cases d'<;>first|rfl|(cases k<;>cases c<;>simp [cH,oY] at hr)
theorem PY {n:Nat} {t:TypeId} {ks:List CK} (h:Dd P n t=some (false,ks)):ks.length=1:=by
 cases n with
 |zero=>cases h
 |succ n=>
  unfold Dd at h
  split at h
  · cases h;rfl
  · cases h;rfl
  · cases h;rfl
  · split at h
    · cases h
    · split at h<;>cases h
  · split at h
    · split at h<;>cases h
    · cases h
  · cases h
theorem F3 {d:Nat} {lay:TypeId->Option (Bool×List CK)} (IH:aeR P E d lay) (h1k:∀ t ks,lay t=some (false,ks)->ks.length=1)
 {cs ds:List V} {xs ys:Array Value} (hx:dY E cs xs) (hy:dY E ds ys) (Oq:∀ (j:Nat) (x:Value),xs[j]? =some x->x.oneCell'=true) (T7:∀ (j:Nat) (x:Value),ys[j]? =some x->x.oneCell'=true):
 ∀ (fs:List Field) (acc:Nat) (ks:List CK) (r:Bool),lU P lay fs acc=some ks->cH ks (cs.drop acc) (ds.drop acc)=some r->∀ w,(Op.eqFields d xs ys fs).run P w=.ok r w
 |[],acc,ks,r,h,hr,w=>by
  simp only [lU,Option.some.injEq] at h
  subst h
  have:r=true:=by
   cases hc:cs.drop acc<;>cases hd:ds.drop acc<;>rw [hc,hd] at hr<;>simp [cH] at hr
   exact hr
  subst this
  simp [Op.eqFields]
 |f::fs,acc,ks,r,h,hr,w=>by
  simp only [lU] at h
  split at h
  case h_2=>cases h
  rename_i row k1 hl
  split at h
  case isFalse=>cases h
  rename_i hc
  obtain ⟨c1,c2,c3,c4⟩:=hc
  split at h
  case h_2=>cases h
  rename_i rest anY
  simp only [Option.some.injEq] at h
  subst h
  obtain ⟨l1,l2,r1,r2,e1,e2,rfl⟩:=pA hr
  obtain ⟨x,y,p1,p2,p3⟩:=PX IH hl c4 (fun gU=>h1k _ _ (by rw [<-gU];exact hl)) c3 hx hy Oq T7 l1 l2 e1 w
  rw [List.drop_drop,List.drop_drop] at e2
  have ih:=F3 IH h1k hx hy Oq T7 fs (acc+k1.length) rest r2 anY e2 w
  simp only [Op.eqFields]
  rw [if_pos c1,c2]
  simp only [Sem.run_bind,p1,p2,p3,Result.andThen_ok]
  cases r1
  · simp
  · simpa using ih
theorem KL {d:Nat} {lay:TypeId->Option (Bool×List CK)} (IH:aeR P E d lay) {e:TypeId} {row:Bool} {k1:List CK} (hl:lay e=some (row,k1)) (h1k:row=false->k1.length=1) (C5:0<k1.length)
 (hz:tO P e (PW row k1)=true)
 {cs ds:List V} {xs ys:Array Value} (hx:dY E cs xs) (hy:dY E ds ys) (Oq:∀ (j:Nat) (x:Value),xs[j]? =some x->x.oneCell'=true) (T7:∀ (j:Nat) (x:Value),ys[j]? =some x->x.oneCell'=true):
 ∀ (m i:Nat) (r:Bool),cH (List.replicate m k1).flatten (cs.drop (i*k1.length)) (ds.drop (i*k1.length))=some r->∀ w,(Op.eqItems d e k1.length xs ys (List.range' i m)).run P w=.ok r w
 |0,i,r,hr,w=>by
  have:r=true:=by
   cases hc:cs.drop (i*k1.length)<;>cases hd:ds.drop (i*k1.length)<;>rw [hc,hd] at hr<;>simp [cH] at hr
   exact hr
  subst this
  simp [Op.eqItems]
 |m+1,i,r,hr,w=>by
  rw [List.replicate_succ,List.flatten_cons] at hr
  obtain ⟨l1,l2,r1,r2,e1,e2,rfl⟩:=pA hr
  obtain ⟨x,y,p1,p2,p3⟩:=PX IH hl hz h1k C5 hx hy Oq T7 l1 l2 e1 w
  rw [List.drop_drop,List.drop_drop,<-Nat.succ_mul] at e2
  have ih:=KL IH hl h1k C5 hz hx hy Oq T7 m (i+1) r2 e2 w
  rw [List.range'_succ]
  simp only [Op.eqItems,Sem.run_bind,p1,p2,p3,Result.andThen_ok]
  cases r1
  · simp
  · simpa using ih
theorem eqLay_ok (d:Nat):∀ n,aeR P E (d+n) (Dd P n)
 |0=>fun t row ks h=>by cases h
 |n+1=>fun t row ks h w v u x y cs ds r hv hu vW iV hr=>by
  unfold Dd at h
  rw [show d+(n+1)=(d+n)+1 from rfl]
  split at h
  · rename_i hut
    cases h
    cases Ao:v<;>rw [Ao] at vW<;>simp [V.row] at vW<;>subst vW
    all_goals (cases rT:u<;>rw [rT] at iV<;>simp [V.row] at iV<;>subst iV)
    all_goals (simp [cH,oY] at hr)
    subst Ao;subst rT;subst hr
    rw [hv.bool,hu.bool,run_equalIn_bool w _ t _ _ hut]
  · rename_i k hut
    cases h
    cases Ao:v<;>rw [Ao] at vW<;>simp [V.row] at vW<;>subst vW
    all_goals (cases rT:u<;>rw [rT] at iV<;>simp [V.row] at iV<;>subst iV)
    all_goals (simp [cH,oY] at hr)
    rename_i k1 n1 k2 n2
    subst Ao;subst rT
    by_cases hk:k1=k2
    · subst hk
      simp at hr
      subst hr
      rw [hv.int,hu.int,run_equalIn_int w _ t k1 k _ _ hut]
      rfl
    · simp [hk] at hr
  · rename_i hut
    cases h
    cases Ao:v<;>rw [Ao] at vW<;>simp [V.row] at vW<;>subst vW
    all_goals (cases rT:u<;>rw [rT] at iV<;>simp [V.row] at iV<;>subst iV)
    all_goals (simp [cH,oY] at hr)
    subst Ao;subst rT;subst hr
    rw [hv.B3,hu.B3,run_equalIn_string w _ t _ _ hut,gQ,gQ]
  · rename_i fs hut
    split at h
    · cases h
    rename_i CA
    split at h
    case h_2=>cases h
    rename_i k1 Ol
    simp only [Option.some.injEq,Prod.mk.injEq] at h
    obtain ⟨rfl,rfl⟩:=h
    cases Ao:v<;>rw [Ao] at vW<;>simp [V.row] at vW
    subst vW
    cases rT:u<;>rw [rT] at iV<;>simp [V.row] at iV
    subst iV
    subst Ao;subst rT
    cases hv with
    |deep hd=>cases hd
    |agg _ xs Oq De hx3=>
    cases hu with
    |deep hd=>cases hd
    |agg _ ys T7 On hy3=>
    have hfs:P.fieldsOf t=fs:=by simp [Program.fieldsOf,hut]
    rw [run_equalIn_struct w (d+n) t xs ys (by rw [hfs];exact hut) (by simpa using CA),hfs]
    exact F3 (eqLay_ok d n) (fun _ _=>PY) ⟨Oq,hx3⟩ ⟨T7,hy3⟩ De On fs.toList 0 _ r Ol (by simpa using hr) w
  · rename_i len e hut
    split at h
    case h_2=>cases h
    rename_i ai5 k1 Ol
    split at h
    case isFalse=>cases h
    rename_i hc
    obtain ⟨c1,c2,c3⟩:=hc
    simp only [Option.some.injEq,Prod.mk.injEq] at h
    obtain ⟨rfl,rfl⟩:=h
    cases Ao:v<;>rw [Ao] at vW<;>simp [V.row] at vW
    subst vW
    cases rT:u<;>rw [rT] at iV<;>simp [V.row] at iV
    subst iV
    subst Ao;subst rT
    cases hv with
    |deep hd=>cases hd
    |agg _ xs Oq De hx3=>
    cases hu with
    |deep hd=>cases hd
    |agg _ ys T7 On hy3=>
    cases hq:P.info? e with
    |none=>simp [hq] at c1
    |some i=>
    have mN:P.cellsOf e=k1.length:=by
     simp [hq] at c1
     simp [Program.cellsOf,hq,c1]
    rw [run_equalIn_array w (d+n) xs ys hut hq,mN,List.range_eq_range']
    exact KL (eqLay_ok d n) Ol (fun gU=>PY (by rw [<-gU];exact Ol)) c2 c3 ⟨Oq,hx3⟩ ⟨T7,hy3⟩ De On len 0 r (by simpa using hr) w
  · cases h
def U8 (P:Program) (t:TypeId) (row:Bool) (ks:List CK):Bool:=
 decide (Dd P 20 t=some (row,ks))&&!P.eqGuardType P.depth t&&(row||decide (ks=[.b]))
theorem T.OU {α β:Type} {A:bK} {o:Option α} {k:α->T β} {K:β->Prop} (h:(T.opt o k).wp A K):∃ x,o=some x/\(k x).wp A K:=by
 unfold T.opt at h
 cases o with
 |none=>exact h.elim
 |some x=>exact ⟨x,rfl,h⟩
theorem U9 {op:BinOp} {t yt:TypeId} {x y:Operand} {d e:bH} {row neg:Bool} {ks:List CK} (ho:o.op=.binOp op t x y yt) (Ip:op=if neg then .neq else .eql) (hx:cZ x d=true) (hy:cZ y e=true) (hn:U8 P t row ks=true)
 (hs:bQ E st w) (hf:aS E N fr a) (hw:(step (.eqc row ks neg d e) fr st).wp (aE P) K) (hc:eX E st w o a next K):o.wp P a w next Q:=by
 have r1:=aQ hx hf
 have r2:=aQ hy hf
 unfold U8 at hn
 simp only [Bool.and_eq_true,decide_eq_true_eq,Bool.not_eq_true',Bool.or_eq_true] at hn
 obtain ⟨⟨hn,hgt⟩,jW⟩:=hn
 simp only [step] at hw
 obtain ⟨cs,vW,hw⟩:=T.OU hw
 obtain ⟨ds,iV,hw⟩:=T.OU hw
 obtain ⟨r,hr,hw⟩:=T.OU hw
 have h:=eqLay_ok (E:=E) (P:=P) 9980 20 t row ks hn w _ _ _ _ cs ds r r1 r2 vW iV hr
 have h:(Op.equal t (a.eval x) (a.eval y)).run P w=.ok r w:=h
 have hk:K (.b (if neg then !r else r),st):=by cases neg<;>exact hw
 have fin:(eqGuard op t x y (a.eval x) (a.eval y)).run P w=.ok () w->(binOp op t (a.eval x) (a.eval y)).run P w=.ok (.bool (if neg then !r else r)) w->o.wp P a w next Q:=by
  intro h1 h2
  exact aP (x:=.bool (if neg then !r else r)) (by simp [execOp,ho,h1,h2]) (hc.same hs hk (.deep (.b _)))
 cases row with
 |true=>
  have hv:∃ c,d.ev fr=.agg c:=by
   cases hq:d.ev fr<;>rw [hq] at vW<;>simp [V.row] at vW
   exact ⟨_,rfl⟩
  have hu:∃ c,e.ev fr=.agg c:=by
   cases hq:e.ev fr<;>rw [hq] at iV<;>simp [V.row] at iV
   exact ⟨_,rfl⟩
  obtain ⟨c1,hv⟩:=hv
  obtain ⟨c2,hu⟩:=hu
  rw [hv] at r1
  rw [hu] at r2
  generalize De:a.eval x=x' at r1 fin h
  generalize On:a.eval y=y' at r2 fin h
  cases r1 with
  |deep hd=>cases hd
  |agg _ xs=>
  cases r2 with
  |deep hd=>cases hd
  |agg _ ys=>
  refine fin (run_eqGuard_agg w op t x y xs ys hgt) ?_
  have h:(Op.equalIn 10000 t (.agg xs) (.agg ys)).run P w=.ok r w:=h
  subst Ip
  cases neg with
  |true=>simp only [if_true];rw [run_neq_struct,h];rfl
  |false=>simp only [Bool.false_eq_true,if_false];rw [run_eql_struct,h];rfl
 |false=>
  have hks:ks=[.b]:=by simpa using jW
  subst hks
  have hv:∃ b,d.ev fr=.b b:=by
   cases hq:d.ev fr<;>rw [hq] at vW<;>simp [V.row] at vW<;>subst vW
   all_goals (cases ds with
    |nil=>simp [cH] at hr
    |cons q qs=>cases q<;>first|exact ⟨_,rfl⟩|simp [cH,oY] at hr)
  have hu:∃ b,e.ev fr=.b b:=by
   cases hq:e.ev fr<;>rw [hq] at iV<;>simp [V.row] at iV<;>subst iV
   all_goals (cases cs with
    |nil=>simp [cH] at hr
    |cons q qs=>cases q<;>first|exact ⟨_,rfl⟩|simp [cH,oY] at hr)
  obtain ⟨b1,hv⟩:=hv
  obtain ⟨b2,hu⟩:=hu
  rw [hv] at r1
  rw [hu] at r2
  have r1:=r1.bool
  have r2:=r2.bool
  rw [r1,r2] at h
  refine fin (by rw [r1,eqGuard_at_bool];rfl) ?_
  rw [r1,r2]
  subst Ip
  cases neg<;>simp [binOp,h]
end
open Go
def KM (P:Program) (t:TypeId):Option (TypeId×Nat×Nat):=
 match P.underlying t with
 |some (.slice el)=>match P.info? el with
  |some i=>some (el,i.size,i.bytes)
  |none=>none
 |_=>none
theorem gF {P:Program} {t el:TypeId} {sz bytes:Nat} (h:KM P t=some (el,sz,bytes)):P.underlying t=some (.slice el)/\(P.info? el).map (·.size)=some sz:=by
 unfold KM at h
 split at h
 · split at h
   · rename_i hi
     cases h
     exact ⟨‹_›,by rw [hi];rfl⟩
   · cases h
 · cases h
def blt (op:Op) (b:Builtin):Option (List Operand×Option TypeId×Option TypeId):=
 match op with
 |.call c=>match c.callee with
  |.builtin b'=>if b'=b then some (c.args.toList,c.argTypes[0]?,c.argTypes[1]?) else none
  |_=>none
 |_=>none
theorem jY {op:Op} {b:Builtin} {xs:List Operand} {t0 t1:Option TypeId} (h:blt op b=some (xs,t0,t1)):∃ ts:Array TypeId,op=.call { callee:=.builtin b,args:=xs.toArray,argTypes:=ts }/\ts[0]? =t0/\ts[1]? =t1:=by
 unfold blt at h
 split at h
 · rename_i c
   split at h
   · rename_i b' hb
     split at h
     · rename_i hbb
       subst hbb
       simp only [Option.some.injEq,Prod.mk.injEq] at h
       obtain ⟨rfl,h0,h1⟩:=h
       refine ⟨c.argTypes,?_,h0,h1⟩
       cases c
       simp only at hb
       subst hb
       rfl
     · cases h
   · cases h
 · cases h
def EM (P:Program) (op:Op) (A:wT):Bool:=
 match A with
 |.mv d=>match op with
  |.move x=>cZ x d
  |_=>false
 |.Ue d=>match op with
  |.assign x=>cZ x d
  |_=>false
 |.pick c d e=>match op with
  |.pick x y z=>cZ x c&&cZ y d&&cZ z e
  |_=>false
 |.alloc _ zero=>match op with
  |.alloc t=>jX P t zero
  |_=>false
 |.box _ d=>match op with
  |.box _ x=>cZ x d
  |_=>false
 |.Uf zero qs=>match op with
  |.build t ps=>jX P t zero&&(match P.underlying t with
   |some (.struct fs)=>(fs.toList.all fun f=>(P.info? f.type).isSome)&&vX P fs ps.toList qs
   |some (.array _ e)=>(match P.info? e with
    |some i=>rO i.size ps.toList qs
    |none=>false)
   |_=>false)
  |_=>false
 |.Ug _ sz len zero qs=>match op with
  |.buildSlice t l ps=>decide (l=len)&&(match KM P t with
   |some (el,_,bytes)=>EG P el sz bytes&&jX P el zero&&decide (len*sz<=16777216)&&rQ ps.toList qs
   |none=>false)
  |_=>false
 |.load n d=>match op with
  |.load t x=>cZ x d&&tO P t n
  |_=>false
 |.store n d e=>match op with
  |.store t x y=>cZ x d&&cZ y e&&decide ((P.info? t).map (·.size)=some n)
  |_=>false
 |.zW d=>match op with
  |.nilCheck x=>cZ x d
  |_=>false
 |.bin b d e=>match op with
  |.binOp b' _ x y _=>decide (b'=b)&&cZ x d&&cZ y e
  |_=>false
 |.eqc row ks neg d e=>match op with
  |.binOp b t x y _=>decide (b=if neg then .neq else .eql)&&cZ x d&&cZ y e&&U8 P t row ks
  |_=>false
 |.eqn neg d e=>match op with
  |.binOp b t x y _=>decide (b=if neg then .neq else .eql)&&cZ x d&&cZ y e&&UY P t e
  |_=>false
 |.un u d=>match op with
  |.unOp u' _ x=>decide (u'=u)&&cZ x d
  |_=>false
 |.cvi k d=>match op with
  |.convert s t x=>cZ x d&&(P.underlying s).isSome&&(match P.underlying t with
   |some (.int k')=>decide (k'=k)
   |_=>false)
  |_=>false
 |.cvs d=>match op with
  |.convert s t x=>cZ x d&&(P.underlying s).isSome&&(match P.underlying t with
   |some .string=>true
   |_=>false)
  |_=>false
 |.Uh _ d=>match op with
  |.convert s t x=>cZ x d&&(match P.underlying s,P.underlying t with
   |some .string,some (.slice el)=>(match P.underlying el with
    |some (.int .u8)=>true
    |_=>false)
   |_,_=>false)
  |_=>false
 |.mkb d=>match op with
  |.convert s t x=>cZ x d&&decide (s=t)&&(match P.underlying t with
   |some (.slice el)=>(match P.underlying el with
    |some (.int .u8)=>true
    |_=>false)
   |_=>false)
  |_=>false
 |.PN d=>match op with
  |.convert s t x=>cZ x d&&(match P.underlying s,P.underlying t with
   |some (.slice el),some .string=>(match P.underlying el with
    |some (.int .u8)=>true
    |_=>false)
   |_,_=>false)
  |_=>false
 |.Ew f ds=>match op with
  |.makeFunc g first cap=>(match g with
   |.func f'=>decide (f'=f)&&decide (first.size=0)&&CU cap.toList ds
   |_=>false)
  |_=>false
 |.BA _ _=>match op with
  |.makeMap _ none=>true
  |_=>false
 |.Kl _ sz bytes zero d e=>match op with
  |.makeSlice t x y=>cZ x d&&cZ y e&&(match P.underlying t with
   |some (.slice el)=>EG P el sz bytes&&jX P el zero
   |_=>false)
  |_=>false
 |.xQ d l h=>match op with
  |.slice t x lo hi none=>cZ x d&&tN lo l&&tN hi h&&(match P.underlying t with
   |some .string=>true
   |_=>false)
  |_=>false
 |.tK sz d l h mx=>match op with
  |.slice t x lo hi none=>cZ x d&&tN lo l&&tN hi h&&mx.isNone&&decide (0<sz)&&(match KM P t with
   |some (_,eD,_)=>decide (eD=sz)
   |none=>false)
  |.slice t x lo hi (some m)=>cZ x d&&tN lo l&&tN hi h&&tN (some m) mx&&h.isSome&&mx.isSome&&decide (0<sz)&&(match KM P t with
   |some (_,eD,_)=>decide (eD=sz)
   |none=>false)
  |_=>false
 |.oW off d=>match op with
  |.fieldAddr t x f=>cZ x d&&(match P.underlying t with
   |some (.struct fs)=>(match fs[f]? with
    |some fl=>decide (fl.offset=off)&&(match P.info? fl.type with
     |some i=>decide (i.size≠0)
     |none=>false)
    |none=>false)
   |_=>false)
  |_=>false
 |.QW off n d=>match op with
  |.field t x f=>cZ x d&&(match P.underlying t with
   |some (.struct fs)=>(match fs[f]? with
    |some fl=>decide (fl.offset=off)&&tO P fl.type n
    |none=>false)
   |_=>false)
  |_=>false
 |.Ey sz d c=>match op with
  |.indexAddr t x y=>cZ x d&&cZ y c&&(match KM P t with
   |some (_,eD,_)=>decide (eD=sz)
   |none=>false)
  |_=>false
 |.Ez len sz d c=>match op with
  |.indexAddr t x y=>cZ x d&&cZ y c&&(match P.underlying t with
   |some (.array n e)=>decide (n=len)&&decide ((P.info? e).map (·.size)=some sz)
   |_=>false)
  |_=>false
 |.ixs d c=>match op with
  |.index t x y=>cZ x d&&cZ y c&&(match P.underlying t with
   |some .string=>true
   |_=>false)
  |_=>false
 |.T0 len sz n d c=>match op with
  |.index t x y=>cZ x d&&cZ y c&&(match P.underlying t with
   |some (.array m e)=>decide (m=len)&&decide ((P.info? e).map (·.size)=some sz)&&tO P e n
   |_=>false)
  |_=>false
 |.Ui kd zero d e ok=>match op with
  |.lookup t x y ok'=>cZ x d&&cZ y e&&decide (ok'=ok)&&(match P.underlying t with
   |some (.map kt el)=>s6 P kt kd&&(match P.info? el with
    |some i=>(match i.zero with
     |some z=>qL 4 z zero
     |none=>false)
    |none=>false)
   |_=>false)
  |_=>false
 |.EA kd d e c=>match op with
  |.mapUpdate t x y v=>cZ x d&&cZ y e&&cZ v c&&(match P.underlying t with
   |some (.map kt _)=>s6 P kt kd
   |_=>false)
  |.insert t x y v=>cZ x d&&cZ y e&&cZ v c&&(match P.underlying t with
   |some (.map kt _)=>s6 P kt kd
   |_=>false)
  |_=>false
 |.ext d i=>match op with
  |.extract x j=>cZ x d&&decide (j=i)
  |_=>false
 |.call f ds=>match op with
  |.call c=>(match c.callee with
   |.value (.func g)=>decide (g=f)&&CU c.args.toList ds
   |_=>false)
  |_=>false
 |.xS g ds=>match op with
  |.call c=>(match c.callee with
   |.value f=>cZ f g&&CU c.args.toList ds
   |_=>false)
  |_=>false
 |.EB d=>match blt op .len with
  |some ([x],some t,_)=>cZ x d&&(match P.underlying t with
   |some .string=>true
   |_=>false)
  |_=>false
 |.EC d=>match blt op .len with
  |some ([x],some t,_)=>cZ x d&&(match P.underlying t with
   |some (.slice _)=>true
   |_=>false)
  |_=>false
 |.ED n=>match blt op .len with
  |some ([_],some t,_)=>(match P.underlying t with
   |some (.array m _)=>decide (m=n)
   |_=>false)
  |_=>false
 |.EE d=>match blt op .len with
  |some ([x],some t,_)=>cZ x d&&(match P.underlying t with
   |some (.map _ _)=>true
   |_=>false)
  |_=>false
 |.zX max ds=>match blt op (if max then .max else .min) with
  |some (xs,_,_)=>CU xs ds
  |none=>false
 |.append _ sz bytes d e=>match blt op .append with
  |some ([s,x],some t,t1)=>cZ s d&&cZ x e&&qV P t1&&(match P.underlying t with
   |some (.slice el)=>EG P el sz bytes
   |_=>false)
  |_=>false
 |.copy sz d e=>match blt op .copy with
  |some ([x,y],some t,_)=>cZ x d&&cZ y e&&(match KM P t with
   |some (_,eD,_)=>decide (eD=sz)
   |none=>false)
  |_=>false
 |.delete kd d e=>match blt op .delete with
  |some ([x,y],some t,_)=>cZ x d&&cZ y e&&(match P.underlying t with
   |some (.map kt _)=>s6 P kt kd
   |_=>false)
  |_=>false
 |.clear sz zero d=>match blt op .clear with
  |some ([x],some t,_)=>cZ x d&&(match KM P t with
   |some (el,_,bytes)=>EG P el sz bytes&&jX P el zero
   |none=>false)
  |_=>false
 |.no=>true
section
variable {P:Program} {o:Oper} {a:Act} {E:Env} {N:Nat} {st:St} {w:World} {fr:Fr} {next:Act->World->Prop} {Q:Exit->Act->World->Prop} {K:R->Prop}
theorem step_ok {A:wT} (h:EM P o.op A=true) (hs:bQ E st w) (hf:aS E N fr a) (hw:(step A fr st).wp (aE P) K) (hc:eX E st w o a next K):o.wp P a w next Q:=by
 cases A<;>simp only [EM] at h
 case mv=>split at h<;>first|exact aeG ‹_› h hs hf hw hc|cases h
 case Ue=>split at h<;>first|exact Ut ‹_› h hs hf hw hc|cases h
 case pick=>
  split at h
  · simp only [Bool.and_eq_true] at h;exact QX ‹_› h.1.1 h.1.2 h.2 hs hf hw hc
  · cases h
 case alloc=>split at h<;>first|exact OG ‹_› h hs hw hc|cases h
 case box=>split at h<;>first|exact UE ‹_› h hs hf hw hc|cases h
 case Uf=>
  split at h
  · simp only [Bool.and_eq_true] at h
    obtain ⟨h1,h2⟩:=h
    split at h2
    · simp only [Bool.and_eq_true] at h2
      exact OI ‹_› h1 ‹_› h2.1 h2.2 hs hf hw hc
    · split at h2
      · rename_i hi
        exact OJ ‹_› h1 ‹_› (by rw [hi];rfl) h2 hs hf hw hc
      · cases h2
    · cases h2
  · cases h
 case Ug=>
  split at h
  · simp only [Bool.and_eq_true,decide_eq_true_eq] at h
    obtain ⟨rfl,h2⟩:=h
    split at h2
    · rename_i he
      simp only [Bool.and_eq_true,decide_eq_true_eq] at h2
      exact UR ‹_› (gF he).1 h2.1.1.1 h2.1.1.2 h2.1.2 h2.2 hs hf hw hc
    · cases h2
  · cases h
 case load=>
  split at h
  · simp only [Bool.and_eq_true] at h;exact Q2 ‹_› h.1 h.2 hs hf hw hc
  · cases h
 case store=>
  split at h
  · simp only [Bool.and_eq_true,decide_eq_true_eq] at h;exact OF ‹_› h.1.1 h.1.2 h.2 hs hf hw hc
  · cases h
 case zW=>split at h<;>first|exact QZ ‹_› h hs hf hw hc|cases h
 case bin=>
  split at h
  · simp only [Bool.and_eq_true,decide_eq_true_eq] at h
    obtain ⟨⟨rfl,h1⟩,h2⟩:=h
    exact Uv ‹_› h1 h2 hs hf hw hc
  · cases h
 case eqc=>
  split at h
  · simp only [Bool.and_eq_true,decide_eq_true_eq] at h
    exact U9 ‹_› h.1.1.1 h.1.1.2 h.1.2 h.2 hs hf hw hc
  · cases h
 case eqn=>
  split at h
  · simp only [Bool.and_eq_true,decide_eq_true_eq] at h
    exact U1 ‹_› h.1.1.1 h.1.1.2 h.1.2 h.2 hs hf hw hc
  · cases h
 case un=>
  split at h
  · simp only [Bool.and_eq_true,decide_eq_true_eq] at h
    obtain ⟨rfl,h1⟩:=h
    exact aeI ‹_› h1 hs hf hw hc
  · cases h
 case cvi=>
  split at h
  · simp only [Bool.and_eq_true] at h
    obtain ⟨⟨h1,h2⟩,h3⟩:=h
    split at h3
    · simp only [decide_eq_true_eq] at h3
      subst h3
      exact Uw ‹_› h1 h2 ‹_› hs hf hw hc
    · cases h3
  · cases h
 case cvs=>
  split at h
  · simp only [Bool.and_eq_true] at h
    obtain ⟨⟨h1,h2⟩,h3⟩:=h
    split at h3
    · exact Ux ‹_› h1 h2 ‹_› hs hf hw hc
    · cases h3
  · cases h
 case Uh=>
  split at h
  · simp only [Bool.and_eq_true] at h
    obtain ⟨h1,h3⟩:=h
    split at h3
    · rename_i hA hB
      split at h3
      · exact UT ‹_› h1 hA hB ‹_› hs hf hw hc
      · cases h3
    · cases h3
  · cases h
 case mkb=>
  split at h
  · simp only [Bool.and_eq_true,decide_eq_true_eq] at h
    obtain ⟨⟨h1,rfl⟩,h3⟩:=h
    split at h3
    · rename_i hA
      split at h3
      · exact UW ‹_› h1 hA ‹_› hs hf hw hc
      · cases h3
    · cases h3
  · cases h
 case PN=>
  split at h
  · simp only [Bool.and_eq_true] at h
    obtain ⟨h1,h3⟩:=h
    split at h3
    · rename_i hA hB
      split at h3
      · exact UX ‹_› h1 hA ‹_› hB hs hf hw hc
      · cases h3
    · cases h3
  · cases h
 case Ew=>
  split at h
  · split at h
    · simp only [Bool.and_eq_true,decide_eq_true_eq] at h
      obtain ⟨⟨rfl,h1⟩,h2⟩:=h
      exact Q1 ‹_› h1 h2 hs hf hw hc
    · cases h
  · cases h
 case BA=>split at h<;>first|exact OH ‹_› hs hw hc|cases h
 case Kl=>
  split at h
  · simp only [Bool.and_eq_true] at h
    obtain ⟨⟨h1,h2⟩,h3⟩:=h
    split at h3
    · simp only [Bool.and_eq_true] at h3
      exact Q7 ‹_› h1 h2 ‹_› h3.1 h3.2 hs hf hw hc
    · cases h3
  · cases h
 case xQ=>
  split at h
  · simp only [Bool.and_eq_true] at h
    obtain ⟨⟨⟨h1,h2⟩,h3⟩,h4⟩:=h
    split at h4
    · exact OO ‹_› ‹_› h1 h2 h3 hs hf hw hc
    · cases h4
  · cases h
 case tK=>
  split at h
  · simp only [Bool.and_eq_true,decide_eq_true_eq,Option.isNone_iff_eq_none] at h
    obtain ⟨⟨⟨⟨⟨h1,h2⟩,h3⟩,rfl⟩,h5⟩,h4⟩:=h
    split at h4
    · rename_i he
      simp only [decide_eq_true_eq] at h4
      subst h4
      exact Rc ‹_› (gF he).1 (gF he).2 h5 h1 h2 h3 hs hf hw hc
    · cases h4
  · simp only [Bool.and_eq_true,decide_eq_true_eq] at h
    obtain ⟨⟨⟨⟨⟨⟨⟨h1,h2⟩,h3⟩,h6⟩,h7⟩,h8⟩,h5⟩,h4⟩:=h
    split at h4
    · rename_i he
      simp only [decide_eq_true_eq] at h4
      subst h4
      exact OQ ‹_› (gF he).1 (gF he).2 h5 h1 h2 h3 h6 h7 h8 hs hf hw hc
    · cases h4
  · cases h
 case oW=>
  split at h
  · simp only [Bool.and_eq_true] at h
    obtain ⟨h1,h2⟩:=h
    split at h2
    · rename_i hu
      split at h2
      · rename_i CW
        simp only [Bool.and_eq_true,decide_eq_true_eq] at h2
        obtain ⟨h3,h4⟩:=h2
        split at h4
        · rename_i i hi
          simp only [decide_eq_true_eq] at h4
          exact OC ‹_› h1 hu CW h3 ⟨i,hi,h4⟩ hs hf hw hc
        · cases h4
      · cases h2
    · cases h2
  · cases h
 case QW=>
  split at h
  · simp only [Bool.and_eq_true] at h
    obtain ⟨h1,h2⟩:=h
    split at h2
    · rename_i hu
      split at h2
      · rename_i CW
        simp only [Bool.and_eq_true,decide_eq_true_eq] at h2
        exact Uy ‹_› h1 hu CW h2.1 h2.2 hs hf hw hc
      · cases h2
    · cases h2
  · cases h
 case Ey=>
  split at h
  · simp only [Bool.and_eq_true] at h
    obtain ⟨⟨h1,h2⟩,h3⟩:=h
    split at h3
    · rename_i he
      simp only [decide_eq_true_eq] at h3
      subst h3
      exact Re ‹_› h1 h2 (gF he).1 (gF he).2 hs hf hw hc
    · cases h3
  · cases h
 case Ez=>
  split at h
  · simp only [Bool.and_eq_true] at h
    obtain ⟨⟨h1,h2⟩,h3⟩:=h
    split at h3
    · simp only [Bool.and_eq_true,decide_eq_true_eq] at h3
      obtain ⟨rfl,h4⟩:=h3
      exact Q0 ‹_› h1 h2 ‹_› h4 hs hf hw hc
    · cases h3
  · cases h
 case ixs=>
  split at h
  · simp only [Bool.and_eq_true] at h
    obtain ⟨⟨h1,h2⟩,h3⟩:=h
    split at h3
    · exact Uz ‹_› h1 h2 ‹_› hs hf hw hc
    · cases h3
  · cases h
 case T0=>
  split at h
  · simp only [Bool.and_eq_true] at h
    obtain ⟨⟨h1,h2⟩,h3⟩:=h
    split at h3
    · simp only [Bool.and_eq_true,decide_eq_true_eq] at h3
      obtain ⟨⟨rfl,h4⟩,h5⟩:=h3
      exact UA ‹_› h1 h2 ‹_› h4 h5 hs hf hw hc
    · cases h3
  · cases h
 case Ui=>
  split at h
  · simp only [Bool.and_eq_true,decide_eq_true_eq] at h
    obtain ⟨⟨⟨h1,h2⟩,rfl⟩,h3⟩:=h
    split at h3
    · rename_i hu
      simp only [Bool.and_eq_true] at h3
      obtain ⟨h4,h5⟩:=h3
      split at h5
      · rename_i hi
        split at h5
        · rename_i hz
          exact U3 ‹_› hu h4 hi hz h5 h1 h2 hs hf hw hc
        · cases h5
      · cases h5
    · cases h3
  · cases h
 case EA=>
  split at h
  · simp only [Bool.and_eq_true] at h
    obtain ⟨⟨⟨h1,h2⟩,h3⟩,h4⟩:=h
    split at h4
    · exact F2 (.inl ‹_›) ‹_› h4 h1 h2 h3 hs hf hw hc
    · cases h4
  · simp only [Bool.and_eq_true] at h
    obtain ⟨⟨⟨h1,h2⟩,h3⟩,h4⟩:=h
    split at h4
    · exact F2 (.inr ‹_›) ‹_› h4 h1 h2 h3 hs hf hw hc
    · cases h4
  · cases h
 case ext=>
  split at h
  · simp only [Bool.and_eq_true,decide_eq_true_eq] at h
    obtain ⟨h1,rfl⟩:=h
    exact UB ‹_› h1 hs hf hw hc
  · cases h
 case call=>
  split at h
  · rename_i c heq
    split at h
    · rename_i g hc'
      simp only [Bool.and_eq_true,decide_eq_true_eq] at h
      obtain ⟨rfl,h2⟩:=h
      cases c
      simp only at hc' h2
      subst hc'
      exact Rm heq h2 hs hf hw hc
    · cases h
  · cases h
 case xS=>
  split at h
  · rename_i c heq
    split at h
    · rename_i g hc'
      simp only [Bool.and_eq_true] at h
      cases c
      simp only at hc' h
      subst hc'
      exact OT heq h.1 h.2 hs hf hw hc
    · cases h
  · cases h
 case EB=>
  split at h
  · rename_i hb
    obtain ⟨ts,h1,h2,_⟩:=jY hb
    simp only [Bool.and_eq_true] at h
    obtain ⟨h3,h4⟩:=h
    split at h4
    · exact Q8 h1 h2 ‹_› h3 hs hf hw hc
    · cases h4
  · cases h
 case EC=>
  split at h
  · rename_i hb
    obtain ⟨ts,h1,h2,_⟩:=jY hb
    simp only [Bool.and_eq_true] at h
    obtain ⟨h3,h4⟩:=h
    split at h4
    · exact Q9 h1 h2 ‹_› h3 hs hf hw hc
    · cases h4
  · cases h
 case ED=>
  split at h
  · rename_i hb
    obtain ⟨ts,h1,h2,_⟩:=jY hb
    split at h
    · simp only [decide_eq_true_eq] at h
      subst h
      exact Ra h1 h2 ‹_› hs hw hc
    · cases h
  · cases h
 case EE=>
  split at h
  · rename_i hb
    obtain ⟨ts,h1,h2,_⟩:=jY hb
    simp only [Bool.and_eq_true] at h
    obtain ⟨h3,h4⟩:=h
    split at h4
    · exact Rb h1 h2 ‹_› h3 hs hf hw hc
    · cases h4
  · cases h
 case zX=>
  split at h
  · rename_i hb
    obtain ⟨ts,h1,h2,_⟩:=jY hb
    exact Rj h1 (by simpa using h) hs hf hw hc
  · cases h
 case append=>
  split at h
  · rename_i hb
    obtain ⟨ts,h1,h2,h2'⟩:=jY hb
    simp only [Bool.and_eq_true] at h
    obtain ⟨⟨⟨h3,h4⟩,h5⟩,h6⟩:=h
    split at h6
    · exact step_append h1 h2 ‹_› h6 (by rw [h2'];exact h5) h3 h4 hs hf hw hc
    · cases h6
  · cases h
 case copy=>
  split at h
  · rename_i hb
    obtain ⟨ts,h1,h2,h2'⟩:=jY hb
    simp only [Bool.and_eq_true] at h
    obtain ⟨⟨h3,h4⟩,h5⟩:=h
    split at h5
    · rename_i he
      simp only [decide_eq_true_eq] at h5
      subst h5
      exact Ri h1 h2 (gF he).1 (gF he).2 h3 h4 hs hf hw hc
    · cases h5
  · cases h
 case delete=>
  split at h
  · rename_i hb
    obtain ⟨ts,h1,h2,h2'⟩:=jY hb
    simp only [Bool.and_eq_true] at h
    obtain ⟨⟨h3,h4⟩,h5⟩:=h
    split at h5
    · exact KJ h1 h2 ‹_› h5 h3 h4 hs hf hw hc
    · cases h5
  · cases h
 case clear=>
  split at h
  · rename_i hb
    obtain ⟨ts,h1,h2,h2'⟩:=jY hb
    simp only [Bool.and_eq_true] at h
    obtain ⟨h3,h5⟩:=h
    split at h5
    · rename_i he
      simp only [Bool.and_eq_true] at h5
      exact OR h1 h2 (gF he).1 h5.1 h5.2 h3 hs hf hw hc
    · cases h5
  · cases h
 case no=>exact hw.elim
end
open Go
theorem bU {n:Nat}:∀ {l:List Nat},bZ n l=true↔n∈l
 |[]=>by simp [bZ]
 |k::r=>by
  simp only [bZ,List.mem_cons]
  cases h:Nat.beq n k with
  |true=>have:=Nat.eq_of_beq_eq_true h;simp [this]
  |false=>
   have:n≠k:=Nat.ne_of_beq_eq_false h
   simp [this,bU]
theorem V.force_eq {α:Type} (v:V) (k:V->α):v.force k=k v:=by cases v<;>rfl
def Fr.jZ (fr:Fr) (ks:List Nat):Fr:=fr.filter fun q=>!bZ q.1 ks
theorem Fr.b8 {α:Type} (ks:List Nat):∀ (fr:Fr) (k:Fr->α),fr.cut ks k=k (fr.jZ ks)
 |[],k=>rfl
 |(n,v)::r,k=>by
  simp only [Fr.cut]
  cases h:bZ n ks with
  |true=>simp only;rw [Fr.b8 ks r];simp [Fr.jZ,h]
  |false=>simp only;rw [Fr.b8 ks r];simp [Fr.jZ,h]
theorem Fr.eC (ks:List Nat) (t:Nat):∀ fr:Fr,(fr.jZ ks).get t=if bZ t ks then .bL else fr.get t
 |[]=>by simp [Fr.jZ,Fr.get]
 |(n,v)::r=>by
  have ih:=Fr.eC ks t r
  simp only [Fr.jZ] at ih ⊢
  by_cases hn:n=t
  · subst hn
    cases h:bZ n ks with
    |true=>rw [List.filter_cons_of_neg (by simp [h])];rw [ih,h];rfl
    |false=>rw [List.filter_cons_of_pos (by simp [h])];simp [Fr.get]
  · by_cases h:bZ n ks=true
    · rw [List.filter_cons_of_neg (by simp [h]),ih]
      simp [Fr.get,hn]
    · rw [List.filter_cons_of_pos (by simp [h])]
      simp only [Fr.get,if_neg hn]
      exact ih
def Fr.next (fr:Fr) (dst:Option Nat) (v:V) (kill:List Nat):Fr:=
 match dst with
 |some d=>match kill with
  |[]=>(d,v)::fr
  |x::ks=>if bZ d (x::ks) then fr.jZ (d::x::ks) else (d,v)::fr.jZ (d::x::ks)
 |none=>match kill with
  |[]=>fr
  |x::ks=>fr.jZ (x::ks)
theorem Fr.bW {α:Type} (fr:Fr) (dst:Option Nat) (v:V) (kill:List Nat) (k:Fr->α):fr.after dst v kill k=k (fr.next dst v kill):=by
 unfold Fr.after Fr.next
 cases dst with
 |none=>
  cases kill with
  |nil=>rfl
  |cons x ks=>simp only;rw [Fr.b8]
 |some d=>
  cases kill with
  |nil=>simp only;rw [V.force_eq]
  |cons x ks=>
   simp only
   cases h:bZ d (x::ks) with
   |true=>simp only;rw [Fr.b8];simp
   |false=>simp only;rw [Fr.b8,V.force_eq];simp
theorem Fr.gY (fr:Fr) (dst:Option Nat) (v:V) (kill:List Nat) (t:Nat):(fr.next dst v kill).get t=if bZ t kill then .bL else if dst=some t then v else fr.get t:=by
 cases dst with
 |none=>
  cases kill with
  |nil=>simp [Fr.next,bZ]
  |cons x ks=>simp [Fr.next,Fr.eC]
 |some d=>
  cases kill with
  |nil=>
   simp only [Fr.next,Fr.get,bZ,Bool.false_eq_true,if_false,Option.some.injEq]
  |cons x ks=>
   simp only [Fr.next,Option.some.injEq]
   by_cases hm:bZ d (x::ks)=true
   · rw [if_pos hm,Fr.eC]
     by_cases ht:bZ t (x::ks)=true
     · rw [if_pos ht,if_pos (by rw [bU] at ht ⊢;exact .tail _ ht)]
     · have dX:¬d=t:=fun e=>ht (e▸hm)
       rw [if_neg ht,if_neg dX,if_neg]
       rw [bU] at ht ⊢
       intro hmm
       rcases List.mem_cons.1 hmm with rfl|hmm
       · exact dX rfl
       · exact ht hmm
   · rw [if_neg hm]
     simp only [Fr.get]
     by_cases hd:d=t
     · subst hd;rw [if_pos rfl,if_neg hm,if_pos rfl]
     · rw [if_neg hd,if_neg hd,Fr.eC]
       by_cases ht:bZ t (x::ks)=true
       · rw [if_pos ht,if_pos (by rw [bU] at ht ⊢;exact .tail _ ht)]
       · rw [if_neg ht,if_neg]
         rw [bU] at ht ⊢
         intro hmm
         rcases List.mem_cons.1 hmm with rfl|hmm
         · exact hd rfl
         · exact ht hmm
theorem aS.next {E:Env} {N:Nat} {fr:Fr} {a:Act} (h:aS E N fr a) {dst:Option Nat} (hd:∀ d,dst=some d->d<N) {v:V} {x:Value} (hr:Rel E v x) (kill:List Nat):aS E N (fr.next dst v kill) (a.put dst x):=by
 refine ⟨by cases dst<;>simp [Act.put,h.size],fun t=>?_⟩
 rw [Fr.gY]
 split
 · exact .bL _
 · split
   · rename_i ht
     subst ht
     have dZ:t<a.tmps.size:=by rw [h.size];exact hd t rfl
     simp only [Act.put,Array.getD_eq_getD_getElem?]
     simp [dZ]
     exact hr
   · rename_i ht
     cases dst with
     |none=>exact h.rel t
     |some d=>
      have dX:d≠t:=fun e=>ht (by rw [e])
      have:(a.put (some d) x).tmps.getD t undef=a.tmps.getD t undef:=by
       simp only [Act.put,Array.getD_eq_getD_getElem?]
       rw [Array.getElem?_setIfInBounds_ne dX]
      rw [this]
      exact h.rel t
theorem put_defers (a:Act) (dst:Option Nat) (x:Value):(a.put dst x).defers=a.defers:=by cases dst<;>rfl
def j0 (ops:Array Oper):Option (Nat×Bool)->Option (Nat×Bool)->Bool
 |none,none=>true
 |some (j,w),some (t,w')=>decide (w=w')&&(match ops[j]? with
  |some o=>decide (o.dst=some t)
  |none=>false)
 |_,_=>false
def KN (N:Nat):Option Nat->Bool
 |some d=>decide (d<N)
 |none=>true
def xZ (P:Program) (N:Nat) (ops:Array Oper):List Oper->List cG->Bool
 |[],[]=>true
 |o::l,A::aEo=>EM P o.op A.op&&decide (A.dst=o.dst)&&KN N o.dst&&j0 ops o.guard A.guard&&xZ P N ops l aEo
 |_,_=>false
theorem aS.same {E:Env} {N:Nat} {fr:Fr} {a:Act} (h:aS E N fr a) {t:Nat} {v:V} (hv:fr.get t=v):aS E N ((t,v)::fr.jZ [t]) a:=by
 refine ⟨h.size,fun t'=>?_⟩
 simp only [Fr.get]
 by_cases ht:t=t'
 · subst ht;rw [if_pos rfl,<-hv];exact h.rel t
 · rw [if_neg ht,Fr.eC]
   split
   · exact .bL _
   · exact h.rel t'
section
variable {P:Program} {N:Nat} {ops:Array Oper} {Q:Exit->Act->World->Prop} {K:Fr×St->Prop}
theorem F4 {E:Env} {fr:Fr} {a:Act} (hf:aS E N fr a) {j t:Nat} {o:Oper} (ho:ops[j]? =some o) (hd:o.dst=some t) {b:Bool} (hv:fr.get t=.b b):yielded ops a.tmps j=some b:=by
 have h:=hf.rel t
 rw [hv] at h
 have h:=h.bool
 simp only [yielded,ho,Option.bind_some,hd]
 simp only [Array.getD_eq_getD_getElem?] at h
 cases hq:a.tmps[t]? with
 |none=>rw [hq] at h;simp [undef] at h
 |some x=>rw [hq] at h;simp at h;rw [h]
theorem F5 {E:Env} {fr:Fr} {a:Act} (hf:aS E N fr a) {j t:Nat} {o:Oper} (ho:ops[j]? =some o) (hd:o.dst=some t) {cs:List V} (hv:fr.get t=.bC cs):yielded ops a.tmps j=none:=by
 have h:=hf.rel t
 rw [hv] at h
 simp only [yielded,ho,Option.bind_some,hd]
 simp only [Array.getD_eq_getD_getElem?] at h
 cases hq:a.tmps[t]? with
 |none=>rfl
 |some x=>
  rw [hq] at h
  simp only [Option.getD_some] at h
  cases h with
  |deep hd=>cases hd
  |bC=>rfl
theorem Df (more:List Nat):∀ (aEo:List cG) (l:List Oper) (i:Nat),xZ P N ops l aEo=true->(∀ k o,l[k]? =some o->ops[i+k]? =some o)->
 ∀ {E:Env} {st:St} {w:World} {fr:Fr} {a:Act},bQ E st w->aS E N fr a->(dM aEo fr st).wp (aE P) K->
  (∀ bV bA E' a' w',K (bV,bA)->bQ E' bA w'->Ext E st w E' bA w'->aS E' N bV a'->a'.defers=a.defers->wpOps P ops Q more a' w')->
  wpOps P ops Q (List.range' i l.length++more) a w
 |[],[],i,_,_,E,st,w,fr,a,hs,hf,hw,hQ=>hQ fr st E a w hw hs (.refl E st w) hf rfl
 |[],_::_,i,hk,_,E,st,w,fr,a,hs,hf,hw,hQ=>by simp [xZ] at hk
 |_::_,[],i,hk,_,E,st,w,fr,a,hs,hf,hw,hQ=>by simp [xZ] at hk
 |A::aEo,o::l,i,hk,anZ,E,st,w,fr,a,hs,hf,hw,hQ=>by
  simp only [xZ,Bool.and_eq_true,decide_eq_true_eq] at hk
  obtain ⟨⟨⟨⟨k1,k2⟩,k3⟩,k4⟩,k5⟩:=hk
  have ho:ops[i]? =some o:=anZ 0 o rfl
  have hdn:∀ d,o.dst=some d->d<N:=fun d hd=>by rw [hd] at k3;simpa [KN] using k3
  have an1:∀ k o',l[k]? =some o'->ops[i+1+k]? =some o':=fun k o' h=>by
   have:=anZ (k+1) o' (by simpa using h)
   rwa [show i+1+k=i+(k+1) by omega]
  -- Og rest,from an2 state Og operation leaves
  have rest:∀ {E':Env} {bA:St} {w':World} {bV:Fr} {a':Act},bQ E' bA w'->Ext E st w E' bA w'->aS E' N bV a'->a'.defers=a.defers->(dM aEo bV bA).wp (aE P) K->wpOps P ops Q (List.range' (i+1) l.length++more) a' w':=by
   intro E' bA w' bV a' s1 s2 s3 s4 UN
   exact Df more aEo l (i+1) k5 an1 s1 s3 UN (fun f2 PZ E2 a2 w2 h1 h2 h3 h4 h5=>hQ f2 PZ E2 a2 w2 h1 h2 (s2.trans h3) h4 (h5.trans s4))
  -- Og operation is carried out
  have KO:∀ {iW:Fr},aS E N iW a->((step A.op iW st).bind fun x=>match x with
   |(v,st)=>iW.after A.dst v A.kill fun fr=>dM aEo fr st).wp (aE P) K->o.wp P a w (wpOps P ops Q (List.range' (i+1) l.length++more)) Q:=by
   intro iW uB hw0
   rw [T.wp_bind] at hw0
   refine step_ok k1 hs uB hw0 ?_
   intro v bA E' w' x Iq s1 s2 hr
   dsimp only at Iq
   rw [Fr.bW] at Iq
   refine rest s1 s2 (aS.next (uB.mono s2.le) hdn hr A.kill) (put_defers _ _ _) ?_
   rw [<-k2];exact Iq
  have skip:∀ {iW:Fr},aS E N iW a->(iW.after A.dst (.bC []) A.kill fun fr=>dM aEo fr st).wp (aE P) K->wpOps P ops Q (List.range' (i+1) l.length++more) (a.put o.dst undef) w:=by
   intro iW uB hw0
   rw [Fr.bW] at hw0
   refine rest hs (.refl E st w) (aS.next uB hdn e8 A.kill) (put_defers _ _ _) ?_
   rw [<-k2];exact hw0
  rw [List.length_cons,List.range'_succ,List.cons_append]
  simp only [wpOps,ho]
  simp only [dM] at hw
  split at hw
  · rename_i hgA
    have hg:o.guard=none:=by
     rw [hgA] at k4
     cases hg:o.guard with
     |none=>rfl
     |some q=>rw [hg] at k4;cases q;simp [j0] at k4
    rw [if_pos (by simp [Region.wanted,hg])]
    exact .inl (KO hf hw)
  · rename_i t want hgA
    rw [hgA] at k4
    cases hg:o.guard with
    |none=>rw [hg] at k4;simp [j0] at k4
    |some q=>
    obtain ⟨j,aBc⟩:=q
    rw [hg] at k4
    simp only [j0,Bool.and_eq_true,decide_eq_true_eq] at k4
    obtain ⟨rfl,k4⟩:=k4
    split at k4
    case h_2=>cases k4
    rename_i oj hoj
    simp only [decide_eq_true_eq] at k4
    split at hw
    · rename_i x hx
      have hy:=F4 hf hoj k4 hx
      have uB:=hf.same hx
      split at hw
      · cases x with
        |true=>
         have hw:=hw.1 rfl
         rw [Fr.b8] at hw
         rw [if_pos (by simp [Region.wanted,hg,hy])]
         exact .inl (KO uB hw)
        |false=>
         have hw:=hw.2 rfl
         rw [Fr.b8] at hw
         rw [if_neg (by simp [Region.wanted,hg,hy])]
         exact skip uB hw
      · cases x with
        |true=>
         have hw:=hw.1 rfl
         rw [Fr.b8] at hw
         rw [if_neg (by simp [Region.wanted,hg,hy])]
         exact skip uB hw
        |false=>
         have hw:=hw.2 rfl
         rw [Fr.b8] at hw
         rw [if_pos (by simp [Region.wanted,hg,hy])]
         exact .inl (KO uB hw)
    · rename_i cs hx
      have hy:=F5 hf hoj k4 hx
      rw [if_neg (by simp [Region.wanted,hg,hy])]
      exact skip hf hw
    · exact hw.elim
theorem ops_ok (aEo:List cG) (l:List Oper) (i:Nat) (hk:xZ P N ops l aEo=true) (ho:∀ k o,l[k]? =some o->ops[i+k]? =some o)
 {E:Env} {st:St} {w:World} {fr:Fr} {a:Act} (hs:bQ E st w) (hf:aS E N fr a) (hw:(dM aEo fr st).wp (aE P) K)
  (hQ:∀ bV bA E' a' w',K (bV,bA)->bQ E' bA w'->Ext E st w E' bA w'->aS E' N bV a'->a'.defers=a.defers->Q .normal a' w'):
  wpOps P ops Q (List.range' i l.length) a w:=by
 have:=Df [] aEo l i hk ho hs hf hw hQ
 rwa [List.append_nil] at this
end
end Go.Eng
