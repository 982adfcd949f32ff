/-
Each operation of the model does what the abstract step says (part eleven: copy, clear, min and max, maps, calls).
-/
import Derived.Test.YtdjbjnnfmkoceaaGreatX01
import Derived.Laws.StructEq
import Derived.ChangeKeysEq
set_option linter.unusedVariables false
set_option linter.unusedSimpArgs false
namespace Go.Eng
open Go
section
variable {P:Program} {o:Oper} {a:Act} {E:Env} {N:Nat} {st:St} {w:World} {fr:Fr} {next:Act->World->Prop} {Q:Exit->Act->World->Prop} {K:R->Prop}
theorem fC.take {cs:List V} {xs:List Value} (hr:fC E cs xs) (n:Nat):fC E (cs.take n) (xs.take n):=by
 intro j v hj
 rw [List.getElem?_take] at hj ⊢
 split at hj
 · rename_i h
   rw [if_pos h]
   exact hr j v hj
 · cases hj
theorem dN:Rel E (.bO []) (.tuple #[]):=.bO _ _ rfl (fun j v x hj=>by simp at hj)
theorem bC.UM (hs:bC E st w) {k:Key} {sz:Nat} {es ds:List (List V)} (dC:st.get k=some (.arr sz es)) {xs:List Value} {off:Nat} (hd:∀ e∈ds,e.length=sz) (kN:off+ds.length<=es.length)
 (Ho:xs.length=ds.length*sz) (hr:fC (E.CM k.lH) ds.flatten xs) (h1:∀ x∈xs,x.oneCell'=true):
 bC E (st.set k (.arr sz (es.take off++ds++es.drop (off+ds.length)))) (w.setCells (E.μ k).aW ((E.μ k).base+off*sz) xs)/\
 Ext E st w E (st.set k (.arr sz (es.take off++ds++es.drop (off+ds.length)))) (w.setCells (E.μ k).aW ((E.μ k).base+off*sz) xs)/\
 w.there (E.μ k).aW ((E.μ k).base+off*sz) xs.length:=by
 obtain ⟨hl,cells,ty,fz,r1,r2,r3,r4,r5⟩:=hs.obj k _ dC
 have Jq:=bT hl
 have Jr:=bT hd
 have Oi:(off+ds.length)*sz<=es.length*sz:=Nat.mul_le_mul_right _ kN
 rw [Nat.add_mul] at Oi
 have Bs:=Gf hl hd kN
 have e9:=eH.written r1 r2 r3 r4 r5 (off:=off*sz) (vs:=ds.flatten) (xs:=xs) (by rw [Env.nC];exact hr.UA (by rw [Ho,Jr])) h1 (by omega)
 rw [<-Bs] at e9
 have C4:∀ e∈es.take off++ds++es.drop (off+ds.length),e.length=sz:=by
  intro e he
  rcases List.mem_append.1 he with h|h
  · rcases List.mem_append.1 h with h|h
    · exact hl e (List.mem_of_mem_take h)
    · exact hd e h
  · exact hl e (List.mem_of_mem_drop h)
 obtain ⟨s1,s2⟩:=hs.write dC r1 r4 (pos:=(E.μ k).base+off*sz) (xs:=xs) (by omega) (by omega) (.arr sz (es.take off++ds++es.drop (off+ds.length))) ⟨C4,e9⟩
 exact ⟨s1,s2,Row.there r1 r2 (by omega)⟩
theorem nI {b c:Nat} {xs:List Value} (ht:w.there b c xs.length) (h1:∀ y∈xs,y.oneCell'=true):(storeCells ⟨b,c,none⟩ xs).run P w=.ok () (w.setCells b c xs):=by
 have:=run_storeCells_cells (P:=P) b c xs 0 w (fun j hj=>by simpa using (ht j hj).1) (fun j hj=>by simpa using (ht j hj).2) h1
 simpa using this
theorem Hy {x y:Operand} {d e:aV} {ts:Array TypeId} {t el:TypeId} {sz:Nat} (ho:o.op=.call { callee:=.builtin .copy,args:=#[x,y],argTypes:=ts }) (ht:ts[0]? =some t) (hu:P.underlying t=some (.slice el))
 (hz:(P.info? el).map (·.size)=some sz) (hx:b9 x d=true) (hy:b9 y e=true)
 (hs:bC E st w) (hf:aJ E N fr a) (hw:(step (.copy sz d e) fr st).wp (aB P) K) (hc:dJ E st w o a next K):o.wp P a w next Q:=by
 have r1:=aH hx hf
 have r2:=aH hy hf
 cases hq:P.info? el with
 |none=>simp [hq] at hz
 |some i=>
 have hi:i.size=sz:=by simpa [hq] using hz
 simp only [step] at hw
 obtain ⟨src,xs,hw,lI⟩:=elems_ok (P:=P) hs r2 hw
 split at hw
 case h_2=>exact hw.elim
 rename_i k cS off len e1
 rw [e1] at r1
 split at hw
 case isFalse=>exact hw.elim
 rename_i xK
 subst xK
 obtain ⟨ds,fX,ob,dC,hw⟩:=hw
 dsimp only at hw
 split at hw
 case h_2=>exact hw.elim
 rename_i dB es
 split at hw
 case isFalse=>exact hw.elim
 rename_i xK
 subst xK
 obtain ⟨kN,hw⟩:=hw
 have kN:off+len<=es.length:=by simpa using kN
 obtain ⟨zW,C3,EL⟩:=iP fX
 have cQ:∀ e∈src.take len,e.length=dB:=fun e he=>lI.Fg e (List.mem_of_mem_take he)
 have EL:=EL cQ
 have hn:ds.length=min len src.length:=by rw [C3,List.length_take]
 have Ho:(xs.take (ds.length*dB)).length=ds.length*dB:=by
  rw [List.length_take,lI.xF]
  have:ds.length*dB<=src.length*dB:=Nat.mul_le_mul_right _ (by omega)
  omega
 have Ol:src.take len=src.take ds.length:=by rw [hn,Nat.min_comm,List.take_eq_take_iff];omega
 have I8:fC E (src.take len).flatten (xs.take (ds.length*dB)):=by
  rw [Ol,iG lI.Fg]
  exact lI.rel.take _
 have EK:=I8.own zW (by rw [Ho,bT cQ,List.length_take,hn])
 have h1:∀ y∈xs.take (ds.length*dB),y.oneCell'=true:=fun y hy=>lI.one y (List.mem_of_mem_take hy)
 obtain ⟨s1,s2,s3⟩:=hs.UM dC EL (off:=off) (by omega) Ho EK h1
 have vW:=lI.first w rfl ds.length (by omega)
 have hlen:=lI.len w
 generalize hv:a.eval x=y at r1
 cases r1 with
 |deep hd=>cases hd
 |ms _ _ _ _ ad cap hk Hn hh zV ha=>
 refine aG (x:=goInt ds.length) ?_ (hc _ _ E _ _ hw s1 s2 (.deep (.i _ _)))
 have XE:Nat.min src.length len=ds.length:=by rw [hn];exact Nat.min_comm _ _
 have wK:(storeCells ad (xs.take (ds.length*dB))).run P w=.ok () (w.setCells (E.μ k).aW ((E.μ k).base+off*dB) (xs.take (ds.length*dB))):=by
  rcases ha with h|h
  · have hn0:ds.length=0:=by omega
    have h0:xs.take (ds.length*dB)=[]:=by simp [hn0]
    rw [h0];rfl
  · subst h
    exact nI s3 h1
 simp [execOp,ho,resolve,invoke,builtin,Builtin.copy_,ht,hv,run_underlying hu,hlen,sizeOf,typeInfo,hq,hi,XE,vW,wK,Result.andThen]
theorem Fo {x:Operand} {d:aV} {ts:Array TypeId} {t el:TypeId} {sz bytes:Nat} {zero:List V} (ho:o.op=.call { callee:=.builtin .clear,args:=#[x],argTypes:=ts }) (ht:ts[0]? =some t) (hu:P.underlying t=some (.slice el))
 (Br:zT P el sz bytes=true) (Oj:gP P el zero=true) (hx:b9 x d=true)
 (hs:bC E st w) (hf:aJ E N fr a) (hw:(step (.clear sz zero d) fr st).wp (aB P) K) (hc:dJ E st w o a next K):o.wp P a w next Q:=by
 obtain ⟨i,z,hi,w9,gH,UB,C2,Fh,OI⟩:=o7 Br
 obtain ⟨i',z',Jy,C7,Jo,hr,hl,h1⟩:=fA Oj
 rw [hi] at Jy;cases Jy
 rw [w9] at C7;cases C7
 have QV:zero.length=sz:=by omega
 have r1:=aH hx hf
 simp only [step] at hw
 split at hw
 · rename_i e1
   rw [e1] at r1
   have hv:=r1.AJ
   exact aG (x:=.tuple #[]) (by simp [execOp,ho,resolve,invoke,builtin,Builtin.clear_,ht,hv,run_underlying hu,Result.andThen]) (hc.same hs hw dN)
 · rename_i k cS off len e1
   rw [e1] at r1
   split at hw
   case isFalse=>exact hw.elim
   rename_i xK
   subst xK
   obtain ⟨ob,dC,hw⟩:=hw
   dsimp only at hw
   split at hw
   case h_2=>exact hw.elim
   rename_i dB es
   split at hw
   case isFalse=>exact hw.elim
   rename_i xK
   subst xK
   obtain ⟨kN,hw⟩:=hw
   have kN:off+len<=es.length:=by simpa using kN
   have UJ:∀ e∈List.replicate len zero,e.length=dB:=fun e he=>by rw [(List.mem_replicate.1 he).2];exact QV
   have QW:=xI (len:=len) (hr (E.CM k.lH)) (by omega)
   have Fj:=xJ (n:=len*zero.length) h1 (by omega)
   rw [QV] at QW Fj
   have e9:=QW.Jw Fj
   have XD:(madeCells z.cells (len*dB)).toList.length=(List.replicate len zero).length*dB:=by simp [size_madeCells]
   have Oi:∀ y∈(madeCells z.cells (len*dB)).toList,y.oneCell'=true:=fun y hy=>by
    obtain ⟨j,hj⟩:=List.getElem?_of_mem hy
    rw [Array.getElem?_toList] at hj
    exact Fj j y hj
   obtain ⟨s1,s2,s3⟩:=hs.UM dC UJ (off:=off) (by rw [List.length_replicate];exact kN) XD e9 Oi
   rw [List.length_replicate] at s1 s2
   generalize hv:a.eval x=y at r1
   cases r1 with
   |deep hd=>cases hd
   |ms _ _ _ _ ad cap hk Hn hh zV ha=>
   refine aG (x:=.tuple #[]) ?_ (hc _ _ E _ _ hw s1 s2 dN)
   cases len with
   |zero=>
    have h0:(madeCells z.cells (0*dB)).toList=[]:=by simp [madeCells,Array.range_zero']
    rw [h0]
    simp [execOp,ho,resolve,invoke,builtin,Builtin.clear_,ht,hv,run_underlying hu,Result.andThen,World.setCells]
   |succ n=>
    have ha:ad=⟨(E.μ k).aW,(E.μ k).base+off*dB,none⟩:=by
     rcases ha with h|h
     · omega
     · exact h
    subst ha
    have wK:=nI (P:=P) s3 Oi
    have hzc:Builtin.zeroCells z.cells (n+1)=madeCells z.cells ((n+1)*dB):=by simp only [Builtin.zeroCells,madeCells,OI]
    simp [execOp,ho,resolve,invoke,builtin,Builtin.clear_,ht,hv,run_underlying hu,Result.andThen,zeroValue,typeInfo,hi,w9,hzc,wK]
 · exact hw.elim
theorem tC {max:Bool}:∀ {vs:List V} {xs:List Value} {v u:V} {x:Value},cP E vs xs.toArray->Rel E v x->eM max v vs=some u->
 ∃ y,(match max with|true=>xs.foldlM Builtin.max2 x|false=>xs.foldlM Builtin.min2 x:Sem Value).run P w=.ok y w/\Rel E u y
 |[],xs,v,u,x,hr,hv,h=>by
  have:xs=[]:=by
   have:=hr.1
   simpa using this
  subst this
  have hu:u=v:=by simp [eM] at h;exact h.symm
  subst hu
  refine ⟨x,?_,hv⟩
  cases max<;>rfl
 |v1::vr,xs,v,u,x,hr,hv,h=>by
  have hlen:=hr.1
  cases xs with
  |nil=>simp at hlen
  |cons x1 xr=>
  have h1:Rel E v1 x1:=hr.2 0 v1 x1 rfl (by simp)
  have IK:cP E vr xr.toArray:=⟨by simpa using hlen,fun j q y hq hy=>hr.2 (j+1) q y (by simpa using hq) (by simpa using hy)⟩
  unfold eM at h
  split at h
  · cases ‹_=[]›
  · rename_i k p k' q r' heq
    cases heq
    have hv:=hv.int
    have h1:=h1.int
    subst hv;subst h1
    cases max with
    |true=>
     simp only at h
     obtain ⟨y,hy,XF⟩:=tC (x:=.int k (if p<q then q else p)) IK (.deep (.i _ _)) h
     refine ⟨y,?_,XF⟩
     simp only [List.foldlM_cons,Sem.run_bind,Builtin.max2,Sem.run_pure,Result.andThen_ok]
     exact hy
    |false=>
     simp only at h
     obtain ⟨y,hy,XF⟩:=tC (x:=.int k (if q<p then q else p)) IK (.deep (.i _ _)) h
     refine ⟨y,?_,XF⟩
     simp only [List.foldlM_cons,Sem.run_bind,Builtin.min2,Sem.run_pure,Result.andThen_ok]
     exact hy
  · cases h
theorem Hz {max:Bool} {xs:Array Operand} {ds:List aV} {ts:Array TypeId} (ho:o.op=.call { callee:=.builtin (if max then .max else .min),args:=xs,argTypes:=ts }) (hx:w6 xs.toList ds=true)
 (hs:bC E st w) (hf:aJ E N fr a) (hw:(step (.rH max ds) fr st).wp (aB P) K) (hc:dJ E st w o a next K):o.wp P a w next Q:=by
 have r1:=rQ hf hx
 simp only [step] at hw
 split at hw
 case h_2=>exact hw.elim
 rename_i v r e1
 rw [e1] at r1
 unfold T.opt at hw
 split at hw
 case h_2=>exact hw.elim
 rename_i u hu
 have hlen:=r1.1
 cases hl:xs.toList.map a.eval with
 |nil=>rw [hl] at hlen;simp at hlen
 |cons y ys=>
  rw [hl] at r1
  have h1:Rel E v y:=r1.2 0 v y rfl (by simp)
  have IK:cP E r ys.toArray:=⟨by have:=r1.1;simpa using this,fun j q z hq hz=>r1.2 (j+1) q z (by simpa using hq) (by simpa using hz)⟩
  obtain ⟨z,hz,OH⟩:=tC (P:=P) (w:=w) IK h1 hu
  have hm:(xs.map a.eval).toList=y::ys:=by rw [Array.toList_map,hl]
  refine aG (x:=z) ?_ (hc.same hs hw OH)
  cases max with
  |true=>simp only at hz;simp [execOp,ho,resolve,invoke,builtin,Builtin.max_,hl,hz,Result.andThen]
  |false=>simp only at hz;simp [execOp,ho,resolve,invoke,builtin,Builtin.min_,hl,hz,Result.andThen]
def mS (P:Program) (kt:TypeId) (kd:Option IntKind):Bool:=
 match P.underlying kt,kd with
 |some .string,none=>true
 |some (.int q),some k=>decide (q=k)
 |_,_=>false
theorem mB {kt:TypeId} {kd:Option IntKind} (h:mS P kt kd=true):∃ d,P.underlying kt=some d/\
 ∀ {I:rK} {v:V} {x:Value},v.cB kd=true->cV I v x->MapKept.IsKey d x:=by
 unfold mS at h
 split at h
 · rename_i hu
   refine ⟨_,hu,fun {I v x} hk hr=>?_⟩
   unfold V.cB at hk
   split at hk
   · cases hr;trivial
   · rename_i e1;cases e1
   · cases hk
 · rename_i q k hu
   refine ⟨_,hu,fun {I v x} hk hr=>?_⟩
   simp only [decide_eq_true_eq] at h
   subst h
   unfold V.cB at hk
   split at hk
   · rename_i e1;cases e1
   · rename_i e1
     cases e1
     simp only [decide_eq_true_eq] at hk
     subst hk
     cases hr;rfl
   · cases hk
 · cases h
theorem Rel.key {kd:Option IntKind} {v:V} {x:Value} (hk:v.cB kd=true) (h:Rel E v x):cV E.I v x:=by
 unfold V.cB at hk
 split at hk
 · cases h;assumption
 · cases h;assumption
 · cases hk
theorem HA {I:rK} {kd:Option IntKind} {v u:V} {x y:Value} (hv:v.cB kd=true) (hu:u.cB kd=true) (h1:cV I v x) (h2:cV I u y):lK v u=true↔x=y:=by
 unfold V.cB at hv hu
 split at hv
 · split at hu
   · cases h1;cases h2
     simp only [lK,beq_iff_eq,Value.string.injEq]
     constructor
     · rintro rfl;rfl
     · intro h
       have:=congrArg (fun b=>b.data.toList) h
       simpa [str] using this
   · rename_i e1;cases e1
   · cases hu
 · split at hu
   · rename_i e1;cases e1
   · rename_i e1
     cases e1
     simp only [decide_eq_true_eq] at hv hu
     subst hv;subst hu
     cases h1;cases h2
     simp [lK]
   · cases hu
 · cases hv
def o8 (E:Env) (kd:Option IntKind) (es:List (V×V)) (l:List MapEntry):Prop:=
 l.length=es.length/\∀ (j:Nat) (q:V×V) (e:MapEntry),es[j]? =some q->l[j]? =some e->cV E.I q.1 e.key/\q.1.cB kd=true/\Rel E q.2 e.val
theorem find_spec {kd:Option IntKind} {d:TypeDesc} (hd:∀ {I:rK} {v:V} {x:Value},v.cB kd=true->cV I v x->MapKept.IsKey d x) {kv:V} {k:Value} (R5:kv.cB kd=true) (hk:cV E.I kv k) (u:V):
 ∀ (es:List (V×V)) (l:List MapEntry) (i:Nat),o8 E kd es l->
  (Instr.findNow d k l i=some none/\rI es kv=none/\dU es kv u=es++[(kv,u)]/\CT es kv=es)\/
  ∃ j e q,Instr.findNow d k l i=some (some (i+j,e.val))/\l[j]? =some e/\es[j]? =some q/\e.key=k/\rI es kv=some q.2/\dU es kv u=es.set j (kv,u)/\CT es kv=es.eraseIdx j
 |[],l,i,h=>by
  have:l=[]:=List.eq_nil_of_length_eq_zero h.1
  subst this
  exact .inl ⟨rfl,rfl,rfl,rfl⟩
 |q::es,l,i,h=>by
  obtain ⟨q1,q2⟩:=q
  cases l with
  |nil=>have:=h.1;simp at this
  |cons e l=>
  obtain ⟨h1,h2,h3⟩:=h.2 0 _ e rfl rfl
  have hkd:=hd R5 hk
  have JH:=hd h2 h1
  obtain ⟨r,hr,UN⟩:=MapKept.sameNow_of_keys hkd JH
  have hq:=HA R5 h2 hk h1
  cases r with
  |true=>
   have he:=UN.1 rfl
   have Om:lK kv q1=true:=hq.2 he
   exact .inr ⟨0,e,(q1,q2),by simp [Instr.findNow,hr],rfl,rfl,he.symm,by simp [rI,Om],by simp [dU,Om],by simp [CT,Om]⟩
  |false=>
   have Om:lK kv q1=false:=by
    cases hb:lK kv q1 with
    |false=>rfl
    |true=>have:=UN.2 (hq.1 hb);cases this
   have hp:o8 E kd es l:=⟨by have:=h.1;simpa using this,fun j p e' hp he=>h.2 (j+1) p e' (by simpa using hp) (by simpa using he)⟩
   rcases find_spec hd R5 hk u es l (i+1) hp with ⟨a1,a2,a3,a4⟩|⟨j,e',q',a1,a2,a3,a4,a5,a6,a7⟩
   · exact .inl ⟨by simp [Instr.findNow,hr,a1],by simp [rI,Om,a2],by simp [dU,Om,a3],by simp [CT,Om,a4]⟩
   · exact .inr ⟨j+1,e',q',by simp [Instr.findNow,hr,a1];omega,by simpa using a2,by simpa using a3,a4,by simp [rI,Om,a5],by simp [dU,Om,a6],by simp [CT,Om,a7]⟩
theorem bC.Dd (hs:bC E st w) {k:Key} {kd:Option IntKind} {es:List (V×V)} (dC:st.get k=some (.mp kd es)):∃ aP clock,w.heap[(E.μ k).aW]? =some (.map aP clock)/\o8 (E.at k) kd es aP.toList:=by
 obtain ⟨aP,clock,h1,h2,h3,_⟩:=hs.obj k _ dC
 exact ⟨aP,clock,h1,by simpa using h2,fun j q e hq he=>h3 j q e hq (by simpa using he)⟩
theorem bC.o9 (hs:bC E st w) {k:Key} {kd:Option IntKind} {es:List (V×V)} (dC:st.get k=some (.mp kd es)) {aP:Array MapEntry} {clock:Nat} (hb:w.heap[(E.μ k).aW]? =some (.map aP clock)):vE aP clock:=by
 obtain ⟨uL,qH,h1,_,_,h4⟩:=hs.obj k _ dC
 rw [hb] at h1
 cases h1
 exact h4
theorem AL {aP:Array MapEntry} {clock:Nat} (h:vE aP clock) (k v:Value):vE (aP.push { key:=k,val:=v,born:=clock }) (clock+1):=by
 refine ⟨?_,?_⟩
 · intro x hx
   rw [Array.toList_push,List.mem_append,List.mem_singleton] at hx
   rcases hx with hx|rfl
   · have:=h.1 x hx;omega
   · exact Nat.lt_succ_self _
 · rw [Array.toList_push,List.map_append,List.map_cons,List.map_nil]
   refine List.nodup_append.2 ⟨h.2,by simp,?_⟩
   intro a ha b hb
   rw [List.mem_singleton] at hb
   subst hb
   obtain ⟨x,hx,rfl⟩:=List.mem_map.1 ha
   exact Nat.ne_of_lt (h.1 x hx)
theorem nJ {aP:Array MapEntry} {clock:Nat} (h:vE aP clock) (j:Nat) (k v:Value):vE (aP.modify j fun e'=>{ e' with key:=k,val:=v }) clock:=by
 have Q0:(aP.modify j fun e'=>{ e' with key:=k,val:=v }).toList.map (·.born)=aP.toList.map (·.born):=by
  apply List.ext_getElem?
  intro i
  simp only [List.getElem?_map,Array.getElem?_toList,Array.getElem?_modify]
  split
  · rename_i WI;subst WI;cases aP[j]? <;>rfl
  · rfl
 refine ⟨fun x hx=>?_,by rw [Q0];exact h.2⟩
 have hm:x.born∈aP.toList.map (·.born):=by rw [<-Q0];exact List.mem_map_of_mem hx
 obtain ⟨y,hy,he⟩:=List.mem_map.1 hm
 rw [<-he]
 exact h.1 y hy
theorem Fp {aP:Array MapEntry} {clock:Nat} (h:vE aP clock) (j:Nat):vE (aP.eraseIdxIfInBounds j) clock:=by
 unfold Array.eraseIdxIfInBounds
 split
 · rw [vE,Array.toList_eraseIdx]
   exact ⟨fun x hx=>h.1 x (List.mem_of_mem_eraseIdx hx),h.2.sublist ((List.eraseIdx_sublist _ _).map _)⟩
 · exact h
theorem Env.OM (E:Env) (k:Key):(E.at k).I=E.I:=by cases k<;>rfl
theorem bC.qI (hs:bC E st w) {k:Key} {kd:Option IntKind} {es:List (V×V)} (dC:st.get k=some (.mp kd es)) {aP:Array MapEntry} {clock:Nat} (hb:w.heap[(E.μ k).aW]? =some (.map aP clock))
 (uL:Array MapEntry) (qH:Nat) (l4:List (V×V)) (R6:vE uL qH) (hp:o8 (E.at k) kd l4 uL.toList):
 bC E (st.set k (.mp kd l4)) { w with heap:=w.heap.setIfInBounds (E.μ k).aW (.map uL qH) }/\Ext E st w E (st.set k (.mp kd l4)) { w with heap:=w.heap.setIfInBounds (E.μ k).aW (.map uL qH) }:=by
 obtain ⟨q1,q2⟩:=MapKept.heap_set (o':=.map uL qH) hb
 refine hs.set dC _ (by simp) (fun b cO=>q2 b cO) rfl rfl rfl (fun j x hx=>?_) ⟨uL,qH,q1,by simpa using hp.1,fun j q e hq he=>hp.2 j q e hq (by simpa using he),R6⟩
 have:=hs.gJ _ _ _ hx
 simp [aT,hb] at this
theorem JI {t kt el:TypeId} {x y:Operand} {d e:aV} {kd:Option IntKind} {zero:V} {ok:Bool} {i:TypeInfo} {z:Value} (ho:o.op=.lookup t x y ok) (hu:P.underlying t=some (.map kt el)) (hk:mS P kt kd=true)
 (hi:P.info? el=some i) (hz:i.zero=some z) (Oj:kM 4 z zero=true) (hx:b9 x d=true) (hy:b9 y e=true)
 (hs:bC E st w) (hf:aJ E N fr a) (hw:(step (.IZ kd zero d e ok) fr st).wp (aB P) K) (hc:dJ E st w o a next K):o.wp P a w next Q:=by
 have r1:=aH hx hf
 have r2:=aH hy hf
 obtain ⟨dd,AI,qJ⟩:=mB hk
 simp only [step] at hw
 split at hw
 case h_2=>exact hw.elim
 rename_i hO
 have JJ:=r2.key hO
 have JK:=qJ hO JJ
 have pair:∀ {v:V} {b:Bool} {u:Value},Rel E v u->Rel E (.bO [v,.b b]) (.tuple #[u,.bool b]):=by
  intro v b u hr
  refine .bO _ _ rfl fun j v' x' h1 h2=>?_
  match j with
  |0=>simp at h1 h2;subst h1;subst h2;exact hr
  |1=>simp at h1 h2;subst h1;subst h2;exact .deep (.b _)
  |j+2=>simp at h1
 split at hw
 · rename_i e1
   rw [e1] at r1
   generalize hv:a.eval x=y' at r1
   cases r1 with
   |deep hd=>cases hd
   |cY=>
    have l9:=MapKept.run_checkKey (w:=w) (P:=P) AI JK true 9999
    have AM:(Instr.findKey kt (a.eval y) []).run P w=.ok none w:=MapKept.run_findKey AI (by rfl)
    unfold qE at hw
    cases ok with
    |true=>
     refine aG (x:=.tuple #[z,.bool false]) ?_ (hc.same hs (hw.1 rfl) (pair (gC Oj E)))
     simp [execOp,ho,hv,Instr.lookup,run_underlying hu,l9,AM,zeroValue,typeInfo,hi,hz]
    |false=>
     refine aG (x:=z) ?_ (hc.same hs (hw.1 rfl) (gC Oj E))
     simp [execOp,ho,hv,Instr.lookup,run_underlying hu,l9,AM,zeroValue,typeInfo,hi,hz]
 · rename_i k e1
   rw [e1] at r1
   obtain ⟨ob,dC,hw⟩:=hw
   dsimp only at hw
   split at hw
   case h_2=>exact hw.elim
   rename_i s0 es
   split at hw
   case isFalse=>exact hw.elim
   rename_i By
   subst By
   generalize hv:a.eval x=y' at r1
   cases r1 with
   |deep hd=>cases hd
   |m _ WJ=>
    obtain ⟨aP,clock,hb,hp⟩:=hs.Dd dC
    have l9:=fun b=>MapKept.run_checkKey (w:=w) (P:=P) AI JK b 9999
    have hg:=MapKept.run_getObj_map (P:=P) hb
    rcases find_spec (E:=E.at k) qJ hO (by rw [Env.OM];exact JJ) .a8 es aP.toList 0 hp with ⟨a1,a2,_,_⟩|⟨j,en,q,a1,a2,a3,a4,a5,_,_⟩
    · have AM:=MapKept.run_findKey (P:=P) (w:=w) AI a1
      unfold qE at hw
      rw [a2] at hw
      cases ok with
      |true=>
       refine aG (x:=.tuple #[z,.bool false]) ?_ (hc.same hs (hw.1 rfl) (pair (gC Oj E)))
       simp [execOp,ho,hv,Instr.lookup,run_underlying hu,hg,l9,AM,zeroValue,typeInfo,hi,hz]
      |false=>
       refine aG (x:=z) ?_ (hc.same hs (hw.1 rfl) (gC Oj E))
       simp [execOp,ho,hv,Instr.lookup,run_underlying hu,hg,l9,AM,zeroValue,typeInfo,hi,hz]
    · have AM:=MapKept.run_findKey (P:=P) (w:=w) AI a1
      have rT:=(hp.2 j q en a3 a2).2.2.mono (E.rL k)
      unfold qE at hw
      rw [a5] at hw
      cases ok with
      |true=>
       refine aG (x:=.tuple #[en.val,.bool true]) ?_ (hc.same hs (hw.2 _ rfl) (pair rT))
       simp [execOp,ho,hv,Instr.lookup,run_underlying hu,hg,l9,AM]
      |false=>
       refine aG (x:=en.val) ?_ (hc.same hs (hw.2 _ rfl) rT)
       simp [execOp,ho,hv,Instr.lookup,run_underlying hu,hg,l9,AM]
 · exact hw.elim
theorem De {g:Bool} {v u:V} {x:Value} (h:CS g v=some u) (hr:Rel E v x):Rel (E.CM g) u x:=by
 cases g with
 |true=>exact rP h hr
 |false=>simp only [CS,Option.some.injEq] at h;subst h;exact hr
theorem AN {t kt el:TypeId} {x y v:Operand} {d e c:aV} {kd:Option IntKind} (ho:o.op=.mapUpdate t x y v\/o.op=.insert t x y v) (hu:P.underlying t=some (.map kt el)) (hk:mS P kt kd=true)
 (hx:b9 x d=true) (hy:b9 y e=true) (hv:b9 v c=true)
 (hs:bC E st w) (hf:aJ E N fr a) (hw:(step (.zO kd d e c) fr st).wp (aB P) K) (hc:dJ E st w o a next K):o.wp P a w next Q:=by
 have r1:=aH hx hf
 have r2:=aH hy hf
 have r3:=aH hv hf
 obtain ⟨dd,AI,qJ⟩:=mB hk
 simp only [step] at hw
 split at hw
 case h_2=>exact hw.elim
 rename_i hO
 have JJ:=r2.key hO
 have JK:=qJ hO JJ
 split at hw
 case h_2=>exact hw.elim
 rename_i k e1
 rw [e1] at r1
 obtain ⟨ob,dC,hw⟩:=hw
 dsimp only at hw
 split at hw
 case h_2=>exact hw.elim
 rename_i s0 es
 split at hw
 case isFalse=>exact hw.elim
 rename_i By
 subst By
 unfold T.opt at hw
 split at hw
 case h_2=>exact hw.elim
 rename_i u JL
 have XG:=De JL r3
 rw [<-Env.nC] at XG
 generalize EN:a.eval x=y' at r1
 cases r1 with
 |deep hd=>cases hd
 |m _ WJ=>
  obtain ⟨aP,clock,hb,hp⟩:=hs.Dd dC
  have l9:=fun b=>MapKept.run_checkKey (w:=w) (P:=P) AI JK b 9999
  have hg:=MapKept.run_getObj_map (P:=P) hb
  have On:cV (E.at k).I (e.ev fr) (a.eval y):=by rw [Env.OM];exact JJ
  rcases find_spec (E:=E.at k) qJ hO On u es aP.toList 0 hp with ⟨a1,a2,a3,_⟩|⟨j,en,q,a1,a2,a3,a4,a5,a6,_⟩
  · have AM:=MapKept.run_findKey (P:=P) (w:=w) AI a1
    dsimp only at hw
    rw [a3] at hw
    obtain ⟨s1,s2⟩:=hs.qI dC hb (aP.push { key:=a.eval y,val:=a.eval v,born:=clock }) (clock+1) (es++[(e.ev fr,u)]) (AL (hs.o9 dC hb) _ _) ⟨by simp [<-hp.1],fun j q en hq jK=>by
     rw [Array.toList_push] at jK
     rw [List.getElem?_append] at hq jK
     have hlen:=hp.1
     split at hq
     · rename_i cQ
       rw [if_pos (by omega)] at jK
       exact hp.2 j q en hq jK
     · rename_i cQ
       rw [if_neg (by omega)] at jK
       have h0:j - es.length=0:=by
        have:=(List.getElem?_eq_some_iff.1 hq).1
        simp at this;omega
       rw [h0] at hq
       rw [hlen,h0] at jK
       simp at hq jK
       subst hq;subst jK
       exact ⟨On,hO,XG⟩⟩
    refine w7 ?_ (hc _ _ E _ _ hw s1 s2 dN)
    rcases ho with ho|ho<;>simp [execOp,ho,EN,Instr.mapUpdate,run_underlying hu,hg,l9,AM,MapKept.run_setObj_map _ hb]
  · have AM:=MapKept.run_findKey (P:=P) (w:=w) AI a1
    have hj:aP[j]? =some en:=by simpa using a2
    dsimp only at hw
    rw [a6] at hw
    obtain ⟨s1,s2⟩:=hs.qI dC hb (aP.modify j fun e'=>{ e' with key:=a.eval y,val:=a.eval v }) clock (es.set j (e.ev fr,u)) (nJ (hs.o9 dC hb) _ _ _) ⟨by simp [<-hp.1],fun i q' T7 hq jK=>by
     rw [Array.getElem?_toList,Array.getElem?_modify] at jK
     by_cases r6:j=i
     · subst r6
       rw [if_pos rfl,hj] at jK
       simp only [Option.map_some,Option.some.injEq] at jK
       have cQ:=(List.getElem?_eq_some_iff.1 a3).1
       rw [List.getElem?_set_self cQ] at hq
       simp only [Option.some.injEq] at hq
       subst hq;subst jK
       exact ⟨On,hO,XG⟩
     · rw [if_neg r6] at jK
       rw [List.getElem?_set_ne r6] at hq
       exact hp.2 i q' T7 hq (by simpa using jK)⟩
    refine w7 ?_ (hc _ _ E _ _ hw s1 s2 dN)
    rcases ho with ho|ho<;>simp [execOp,ho,EN,Instr.mapUpdate,run_underlying hu,hg,l9,AM,hj,a4,MapKept.run_keyThatStays JK,MapKept.run_setObj_map _ hb]
theorem HB {kd:Option IntKind} {es:List (V×V)} {l:List MapEntry} (hp:o8 E kd es l) {j:Nat} (_hj:j<l.length):o8 E kd (es.eraseIdx j) (l.eraseIdx j):=by
 have hlen:=hp.1
 refine ⟨by rw [List.length_eraseIdx,List.length_eraseIdx,hlen],fun i q e hq he=>?_⟩
 rw [List.getElem?_eraseIdx] at hq he
 split at hq
 · rename_i h
   rw [if_pos h] at he
   exact hp.2 _ q e hq he
 · rename_i h
   rw [if_neg h] at he
   exact hp.2 _ q e hq he
theorem Df {ts:Array TypeId} {t kt el:TypeId} {x y:Operand} {d e:aV} {kd:Option IntKind} (ho:o.op=.call { callee:=.builtin .delete,args:=#[x,y],argTypes:=ts }) (ht:ts[0]? =some t) (hu:P.underlying t=some (.map kt el)) (hk:mS P kt kd=true)
 (hx:b9 x d=true) (hy:b9 y e=true)
 (hs:bC E st w) (hf:aJ E N fr a) (hw:(step (.delete kd d e) fr st).wp (aB P) K) (hc:dJ E st w o a next K):o.wp P a w next Q:=by
 have r1:=aH hx hf
 have r2:=aH hy hf
 obtain ⟨dd,AI,qJ⟩:=mB hk
 simp only [step] at hw
 split at hw
 case h_2=>exact hw.elim
 rename_i hO
 have JJ:=r2.key hO
 have JK:=qJ hO JJ
 split at hw
 · rename_i e1
   rw [e1] at r1
   generalize hv:a.eval x=y' at r1
   cases r1 with
   |deep hd=>cases hd
   |cY=>
    have l9:=MapKept.run_checkKey (w:=w) (P:=P) AI JK true 9999
    exact aG (x:=.tuple #[]) (by simp [execOp,ho,resolve,invoke,builtin,Builtin.delete_,ht,hv,run_underlying hu,l9,Result.andThen]) (hc.same hs hw dN)
 · rename_i k e1
   rw [e1] at r1
   obtain ⟨ob,dC,hw⟩:=hw
   dsimp only at hw
   split at hw
   case h_2=>exact hw.elim
   rename_i s0 es
   split at hw
   case isFalse=>exact hw.elim
   rename_i By
   subst By
   generalize EN:a.eval x=y' at r1
   cases r1 with
   |deep hd=>cases hd
   |m _ WJ=>
    obtain ⟨aP,clock,hb,hp⟩:=hs.Dd dC
    have l9:=fun b=>MapKept.run_checkKey (w:=w) (P:=P) AI JK b 9999
    have hg:=MapKept.run_getObj_map (P:=P) hb
    have On:cV (E.at k).I (e.ev fr) (a.eval y):=by rw [Env.OM];exact JJ
    rcases find_spec (E:=E.at k) qJ hO On .a8 es aP.toList 0 hp with ⟨a1,a2,_,a4⟩|⟨j,en,q,a1,a2,a3,a4,a5,_,a7⟩
    · have AM:=MapKept.run_findKey (P:=P) (w:=w) AI a1
      rw [a4] at hw
      obtain ⟨s1,s2⟩:=hs.qI dC hb aP clock es (hs.o9 dC hb) hp
      refine aG (x:=.tuple #[]) ?_ (hc _ _ E _ _ hw s1 s2 dN)
      simp [execOp,ho,resolve,invoke,builtin,Builtin.delete_,ht,EN,run_underlying hu,hg,l9,AM,MapKept.run_setObj_map _ hb,Result.andThen]
    · have AM:=MapKept.run_findKey (P:=P) (w:=w) AI a1
      rw [a7] at hw
      have cQ:=(List.getElem?_eq_some_iff.1 a2).1
      have Ja:j<aP.size:=by simpa using cQ
      have ZL:=HB hp cQ
      have EP:(aP.eraseIdxIfInBounds j).toList=aP.toList.eraseIdx j:=by
       unfold Array.eraseIdxIfInBounds
       rw [dif_pos Ja]
       simp
      rw [<-EP] at ZL
      obtain ⟨s1,s2⟩:=hs.qI dC hb (aP.eraseIdxIfInBounds j) clock (es.eraseIdx j) (Fp (hs.o9 dC hb) _) ZL
      refine aG (x:=.tuple #[]) ?_ (hc _ _ E _ _ hw s1 s2 dN)
      simp [execOp,ho,resolve,invoke,builtin,Builtin.delete_,ht,EN,run_underlying hu,hg,l9,AM,MapKept.run_setObj_map _ hb,Result.andThen]
 · exact hw.elim
theorem mC {f:Nat} {args:Array Value} (h:iE P f=true):(callFunc f args).run P w=.ok (.enter f args) w:=by
 unfold iE at h
 split at h
 · rename_i fn JM
   simp only [Bool.and_eq_true,Bool.not_eq_true',beq_eq_false_iff_ne] at h
   obtain ⟨h1,h2⟩:=h
   have h3:fn.body.isNone=false:=by cases hb:fn.body<;>simp [hb] at h1 ⊢
   have h4:¬fn.body=none:=by intro h;rw [h] at h1;cases h1
   simp [callFunc,JM,h2,h4]
 · cases h
theorem Dg {f:Nat} {args:Array Value} (h:(execOp a.eval o).run P w=.ok (.enter f args) w) (hc:Calls P f args w fun
 |.returned v,QO=>next (a.put o.dst v) QO
 |.panicked chain,QO=>Q (.panic chain) a QO
 |.outgrown,_=>LetsOut Q):o.wp P a w next Q:=by
 unfold Oper.wp
 rw [h,Oper.upon_enter]
 exact hc
theorem HC {f:Nat} {xs:Array Operand} {ds:List aV} {ts:Array TypeId} (ho:o.op=.call { callee:=.value (.func f),args:=xs,argTypes:=ts }) (hx:w6 xs.toList ds=true)
 (hs:bC E st w) (hf:aJ E N fr a) (hw:(step (.call f ds) fr st).wp (aB P) K) (hc:dJ E st w o a next K):o.wp P a w next Q:=by
 have r1:=rQ hf hx
 simp only [step] at hw
 unfold T.opt at hw
 split at hw
 case h_2=>exact hw.elim
 rename_i vs RQ
 have hb:iE P f=true:=hw.1
 have e:(xs.toList.map a.eval).toArray=xs.map a.eval:=by
  apply Array.ext'
  simp
 rw [e] at r1
 refine Dg (f:=f) (args:=xs.map a.eval) ?_ (aB.use hs RQ r1 hw (fun v h' E' w' x hk s1 s2 hr=>hc v _ E' w' x hk s1 s2 hr))
 simp [execOp,ho,resolve,Act.eval,Deferred.ofValue,invoke,mC hb]
theorem Fq {f:Operand} {g:aV} {xs:Array Operand} {ds:List aV} {ts:Array TypeId} (ho:o.op=.call { callee:=.value f,args:=xs,argTypes:=ts }) (hg:b9 f g=true) (hx:w6 xs.toList ds=true)
 (hs:bC E st w) (hf:aJ E N fr a) (hw:(step (.pX g ds) fr st).wp (aB P) K) (hc:dJ E st w o a next K):o.wp P a w next Q:=by
 have r0:=aH hg hf
 have r1:=rQ hf hx
 simp only [step] at hw
 split at hw
 case h_2=>exact hw.elim
 rename_i n first cap e1
 rw [e1] at r0
 unfold T.opt at hw
 split at hw
 case h_2=>exact hw.elim
 rename_i vs RQ
 have hb:iE P n=true:=hw.1
 have e:(xs.toList.map a.eval).toArray=xs.map a.eval:=by
  apply Array.ext'
  simp
 rw [e] at r1
 generalize hv:a.eval f=y at r0
 cases r0 with
 |deep hd=>cases hd
 |fn _ _ _ fa ca h1 h2 h3 h4=>
  have vU:cP E (first++aV.wH fr ds++cap) (fa++xs.map a.eval++ca):=(cP.append (cP.append ⟨h1,h3⟩ r1) ⟨h2,h4⟩)
  refine Dg (f:=n) (args:=fa++xs.map a.eval++ca) ?_ (aB.use hs RQ vU hw (fun v h' E' w' x hk s1 s2 hr=>hc v _ E' w' x hk s1 s2 hr))
  simp [execOp,ho,resolve,hv,Deferred.ofValue,invoke,mC hb]
end
open Go
def Gi (row:Bool) (ks:List CK):Option Nat:=if row then some ks.length else none
def iS (P:Program) (lay:TypeId->Option (Bool×List CK)):List Field->Nat->Option (List CK)
 |[],_=>some []
 |f::fs,acc=>match lay f.type with
  | some (row, ks) => if f.name ≠ "_" ∧ f.offset = acc ∧ 0 < ks.length ∧ m9 P f.type (Gi row ks) = true then
     (match iS P lay fs (acc+ks.length) with
     |some rest=>some (ks++rest)
     |none=>none)
    else none
  |none=>none
def xO (P:Program):Nat->TypeId->Option (Bool×List CK)
 |0,_=>none
 |n+1,t=>match P.underlying t with
  |some .bool=>some (false,[.b])
  |some (.int _)=>some (false,[.i])
  |some .string=>some (false,[.s])
  |some (.struct fs)=>if P.stoodInHeld t=true then none else match iS P (xO P n) fs.toList 0 with
   |some ks=>some (true,ks)
   |none=>none
  |some (.array len e)=>match xO P n e with
   |some (row,ks)=>if (P.info? e).map (·.size)=some ks.length/\0<ks.length/\m9 P e (Gi row ks)=true then some (true,(List.replicate len ks).flatten) else none
   |none=>none
  |_=>none
theorem j1:∀ {k1 k2:List CK} {cs ds:List V} {r:Bool},bV (k1++k2) cs ds=some r->
 k1.length<=cs.length/\k1.length<=ds.length/\∃ r1 r2,bV k1 (cs.take k1.length) (ds.take k1.length)=some r1/\bV k2 (cs.drop k1.length) (ds.drop k1.length)=some r2/\r=(r1&&r2)
 |[],k2,cs,ds,r,h=>⟨Nat.zero_le _,Nat.zero_le _,true,r,by simp [bV],by simpa using h,by simp⟩
 |k::k1,k2,cs,ds,r,h=>by
  cases cs with
  |nil=>simp [bV] at h
  |cons c cs=>
  cases ds with
  |nil=>simp [bV] at h
  |cons d ds=>
  simp only [List.cons_append,bV] at h
  split at h
  · rename_i a b ha hb
    simp only [Option.some.injEq] at h
    subst h
    obtain ⟨h1,h2,r1,r2,h3,h4,rfl⟩:=j1 hb
    refine ⟨by simp [h1],by simp [h2],a&&r1,r2,by simp [bV,ha,h3],by simpa using h4,by simp [Bool.and_assoc]⟩
  · cases h
section
variable {P:Program} {o:Oper} {a:Act} {E:Env} {N:Nat} {st:St} {w:World} {fr:Fr} {next:Act->World->Prop} {Q:Exit->Act->World->Prop} {K:R->Prop}
def ON (P:Program) (E:Env) (d:Nat) (lay:TypeId->Option (Bool×List CK)):Prop:=
 ∀ (t:TypeId) (row:Bool) (ks:List CK),lay t=some (row,ks)->∀ (w:World) (v u:V) (x y:Value) (cs ds:List V) (r:Bool),Rel E v x->Rel E u y->v.row row=some cs->u.row row=some ds->bV ks cs ds=some r->
  (Op.equalIn d t x y).run P w=.ok r w
theorem Gj {d:Nat} {lay:TypeId->Option (Bool×List CK)} (IH:ON P E d lay) {t:TypeId} {row:Bool} {ks:List CK} (hl:lay t=some (row,ks)) (hz:m9 P t (Gi row ks)=true) (R7:row=false->ks.length=1) (xG:0<ks.length)
 {cs ds:List V} {xs ys:Array Value} (hx:cP E cs xs) (hy:cP E ds ys) (ER:∀ (j:Nat) (x:Value),xs[j]? =some x->x.oneCell'=true) (IM:∀ (j:Nat) (x:Value),ys[j]? =some x->x.oneCell'=true)
 {off:Nat} {r:Bool} (T8:ks.length<=(cs.drop off).length) (WK:ks.length<=(ds.drop off).length) (hr:bV ks ((cs.drop off).take ks.length) ((ds.drop off).take ks.length)=some r) (w:World):
 ∃ x y,(part t xs off).run P w=.ok x w/\(part t ys off).run P w=.ok y w/\(Op.equalIn d t x y).run P w=.ok r w:=by
 cases row with
 |true=>
  have hz:m9 P t (some ks.length)=true:=hz
  have ZM:∀ {l:List V},ks.length<=(l.drop off).length->off<=l.length->cG l off (some ks.length)=some (.agg ((l.drop off).take ks.length)):=by
   intro l h h'
   simp only [cG]
   rw [if_pos (by simp at h;omega)]
  have E3:off<=cs.length:=by rw [List.length_drop] at T8;omega
  have OG:off<=ds.length:=by rw [List.length_drop] at WK;omega
  obtain ⟨x,p1,q1⟩:=lN (w:=w) hz hx ER (ZM T8 E3)
  obtain ⟨y,p2,q2⟩:=lN (w:=w) hz hy IM (ZM WK OG)
  exact ⟨x,y,p1,p2,IH t true ks hl w _ _ x y _ _ r q1 q2 rfl rfl hr⟩
 |false=>
  have hz:m9 P t none=true:=hz
  have h1:=R7 rfl
  obtain ⟨k,rfl⟩:∃ k,ks=[k]:=by
   match ks,h1 with
   |[k],_=>exact ⟨k,rfl⟩
  simp only [List.length_singleton] at hr T8 WK
  have get:∀ {l:List V},1<=(l.drop off).length->∃ c,l[off]? =some c/\(l.drop off).take 1=[c]:=by
   intro l h
   simp only [List.length_drop] at h
   have cQ:off<l.length:=by omega
   refine ⟨l[off],by simp [cQ],?_⟩
   rw [List.drop_eq_getElem_cons cQ]
   rfl
  obtain ⟨c,RZ,WL⟩:=get T8
  obtain ⟨d',zW,C3⟩:=get WK
  rw [WL,C3] at hr
  obtain ⟨x,p1,q1⟩:=lN (w:=w) hz hx ER RZ
  obtain ⟨y,p2,q2⟩:=lN (w:=w) hz hy IM zW
  refine ⟨x,y,p1,p2,IH t false [k] hl w c d' x y [c] [d'] r q1 q2 ?_ ?_ hr⟩
  · cases c<;>first|rfl|(cases k<;>simp [bV,jT] at hr)
  · cases d'<;>first|rfl|(cases k<;>cases c<;>simp [bV,jT] at hr)
theorem Gk {n:Nat} {t:TypeId} {ks:List CK} (h:xO P n t=some (false,ks)):ks.length=1:=by
 cases n with
 |zero=>cases h
 |succ n=>
  unfold xO at h
  split at h
  · cases h;rfl
  · cases h;rfl
  · cases h;rfl
  · split at h
    · cases h
    · split at h<;>cases h
  · split at h
    · split at h<;>cases h
    · cases h
  · cases h
theorem AO {d:Nat} {lay:TypeId->Option (Bool×List CK)} (IH:ON P E d lay) (R7:∀ t ks,lay t=some (false,ks)->ks.length=1)
 {cs ds:List V} {xs ys:Array Value} (hx:cP E cs xs) (hy:cP E ds ys) (ER:∀ (j:Nat) (x:Value),xs[j]? =some x->x.oneCell'=true) (IM:∀ (j:Nat) (x:Value),ys[j]? =some x->x.oneCell'=true):
 ∀ (fs:List Field) (acc:Nat) (ks:List CK) (r:Bool),iS P lay fs acc=some ks->bV ks (cs.drop acc) (ds.drop acc)=some r->∀ w,(Op.eqFields d xs ys fs).run P w=.ok r w
 |[],acc,ks,r,h,hr,w=>by
  simp only [iS,Option.some.injEq] at h
  subst h
  have:r=true:=by
   cases hc:cs.drop acc<;>cases hd:ds.drop acc<;>rw [hc,hd] at hr<;>simp [bV] at hr
   exact hr
  subst this
  simp [Op.eqFields]
 |f::fs,acc,ks,r,h,hr,w=>by
  simp only [iS] at h
  split at h
  case h_2=>cases h
  rename_i row k1 hl
  split at h
  case isFalse=>cases h
  rename_i hc
  obtain ⟨c1,c2,c3,c4⟩:=hc
  split at h
  case h_2=>cases h
  rename_i rest UO
  simp only [Option.some.injEq] at h
  subst h
  obtain ⟨l1,l2,r1,r2,e1,e2,rfl⟩:=j1 hr
  obtain ⟨x,y,p1,p2,p3⟩:=Gj IH hl c4 (fun e9=>R7 _ _ (by rw [<-e9];exact hl)) c3 hx hy ER IM l1 l2 e1 w
  rw [List.drop_drop,List.drop_drop] at e2
  have ih:=AO IH R7 hx hy ER IM fs (acc+k1.length) rest r2 UO e2 w
  simp only [Op.eqFields]
  rw [if_pos c1,c2]
  simp only [Sem.run_bind,p1,p2,p3,Result.andThen_ok]
  cases r1
  · simp
  · simpa using ih
theorem Dh {d:Nat} {lay:TypeId->Option (Bool×List CK)} (IH:ON P E d lay) {e:TypeId} {row:Bool} {k1:List CK} (hl:lay e=some (row,k1)) (R7:row=false->k1.length=1) (xG:0<k1.length)
 (hz:m9 P e (Gi row k1)=true)
 {cs ds:List V} {xs ys:Array Value} (hx:cP E cs xs) (hy:cP E ds ys) (ER:∀ (j:Nat) (x:Value),xs[j]? =some x->x.oneCell'=true) (IM:∀ (j:Nat) (x:Value),ys[j]? =some x->x.oneCell'=true):
 ∀ (m i:Nat) (r:Bool),bV (List.replicate m k1).flatten (cs.drop (i*k1.length)) (ds.drop (i*k1.length))=some r->∀ w,(Op.eqItems d e k1.length xs ys (List.range' i m)).run P w=.ok r w
 |0,i,r,hr,w=>by
  have:r=true:=by
   cases hc:cs.drop (i*k1.length)<;>cases hd:ds.drop (i*k1.length)<;>rw [hc,hd] at hr<;>simp [bV] at hr
   exact hr
  subst this
  simp [Op.eqItems]
 |m+1,i,r,hr,w=>by
  rw [List.replicate_succ,List.flatten_cons] at hr
  obtain ⟨l1,l2,r1,r2,e1,e2,rfl⟩:=j1 hr
  obtain ⟨x,y,p1,p2,p3⟩:=Gj IH hl hz R7 xG hx hy ER IM l1 l2 e1 w
  rw [List.drop_drop,List.drop_drop,<-Nat.succ_mul] at e2
  have ih:=Dh IH hl R7 xG hz hx hy ER IM m (i+1) r2 e2 w
  rw [List.range'_succ]
  simp only [Op.eqItems,Sem.run_bind,p1,p2,p3,Result.andThen_ok]
  cases r1
  · simp
  · simpa using ih
theorem eqLay_ok (d:Nat):∀ n,ON P E (d+n) (xO P n)
 |0=>fun t row ks h=>by cases h
 |n+1=>fun t row ks h w v u x y cs ds r hv hu o5 fX hr=>by
  unfold xO at h
  rw [show d+(n+1)=(d+n)+1 from rfl]
  split at h
  · rename_i Oo
    cases h
    cases r7:v<;>rw [r7] at o5<;>simp [V.row] at o5<;>subst o5
    all_goals (cases lT:u<;>rw [lT] at fX<;>simp [V.row] at fX<;>subst fX)
    all_goals (simp [bV,jT] at hr)
    subst r7;subst lT;subst hr
    rw [hv.bool,hu.bool,run_equalIn_bool w _ t _ _ Oo]
  · rename_i k Oo
    cases h
    cases r7:v<;>rw [r7] at o5<;>simp [V.row] at o5<;>subst o5
    all_goals (cases lT:u<;>rw [lT] at fX<;>simp [V.row] at fX<;>subst fX)
    all_goals (simp [bV,jT] at hr)
    rename_i k1 n1 k2 n2
    subst r7;subst lT
    by_cases hk:k1=k2
    · subst hk
      simp at hr
      subst hr
      rw [hv.int,hu.int,run_equalIn_int w _ t k1 k _ _ Oo]
      rfl
    · simp [hk] at hr
  · rename_i Oo
    cases h
    cases r7:v<;>rw [r7] at o5<;>simp [V.row] at o5<;>subst o5
    all_goals (cases lT:u<;>rw [lT] at fX<;>simp [V.row] at fX<;>subst fX)
    all_goals (simp [bV,jT] at hr)
    subst r7;subst lT;subst hr
    rw [hv.vJ,hu.vJ,run_equalIn_string w _ t _ _ Oo,eY,eY]
  · rename_i fs Oo
    split at h
    · cases h
    rename_i wK
    split at h
    case h_2=>cases h
    rename_i k1 EM
    simp only [Option.some.injEq,Prod.mk.injEq] at h
    obtain ⟨rfl,rfl⟩:=h
    cases r7:v<;>rw [r7] at o5<;>simp [V.row] at o5
    subst o5
    cases lT:u<;>rw [lT] at fX<;>simp [V.row] at fX
    subst fX
    subst r7;subst lT
    cases hv with
    |deep hd=>cases hd
    |agg _ xs ER xP XH=>
    cases hu with
    |deep hd=>cases hd
    |agg _ ys IM EO XI=>
    have ZN:P.fieldsOf t=fs:=by simp [Program.fieldsOf,Oo]
    rw [run_equalIn_struct w (d+n) t xs ys (by rw [ZN];exact Oo) (by simpa using wK),ZN]
    exact AO (eqLay_ok d n) (fun _ _=>Gk) ⟨ER,XH⟩ ⟨IM,XI⟩ xP EO fs.toList 0 _ r EM (by simpa using hr) w
  · rename_i len e Oo
    split at h
    case h_2=>cases h
    rename_i R8 k1 EM
    split at h
    case isFalse=>cases h
    rename_i hc
    obtain ⟨c1,c2,c3⟩:=hc
    simp only [Option.some.injEq,Prod.mk.injEq] at h
    obtain ⟨rfl,rfl⟩:=h
    cases r7:v<;>rw [r7] at o5<;>simp [V.row] at o5
    subst o5
    cases lT:u<;>rw [lT] at fX<;>simp [V.row] at fX
    subst fX
    subst r7;subst lT
    cases hv with
    |deep hd=>cases hd
    |agg _ xs ER xP XH=>
    cases hu with
    |deep hd=>cases hd
    |agg _ ys IM EO XI=>
    cases hq:P.info? e with
    |none=>simp [hq] at c1
    |some i=>
    have jH:P.cellsOf e=k1.length:=by
     simp [hq] at c1
     simp [Program.cellsOf,hq,c1]
    rw [run_equalIn_array w (d+n) xs ys Oo hq,jH,List.range_eq_range']
    exact Dh (eqLay_ok d n) EM (fun e9=>Gk (by rw [<-e9];exact EM)) c2 c3 ⟨ER,XH⟩ ⟨IM,XI⟩ xP EO len 0 r (by simpa using hr) w
  · cases h
def JN (P:Program) (t:TypeId) (row:Bool) (ks:List CK):Bool:=
 decide (xO P 20 t=some (row,ks))&&!P.eqGuardType P.depth t&&(row||decide (ks=[.b]))
theorem T.Fs {α β:Type} {A:aX} {o:Option α} {k:α->T β} {K:β->Prop} (h:(T.opt o k).wp A K):∃ x,o=some x/\(k x).wp A K:=by
 unfold T.opt at h
 cases o with
 |none=>exact h.elim
 |some x=>exact ⟨x,rfl,h⟩
theorem JO {op:BinOp} {t yt:TypeId} {x y:Operand} {d e:aV} {row neg:Bool} {ks:List CK} (ho:o.op=.binOp op t x y yt) (Bw:op=if neg then .neq else .eql) (hx:b9 x d=true) (hy:b9 y e=true) (hn:JN P t row ks=true)
 (hs:bC E st w) (hf:aJ E N fr a) (hw:(step (.N8 row ks neg d e) fr st).wp (aB P) K) (hc:dJ E st w o a next K):o.wp P a w next Q:=by
 have r1:=aH hx hf
 have r2:=aH hy hf
 unfold JN at hn
 simp only [Bool.and_eq_true,decide_eq_true_eq,Bool.not_eq_true',Bool.or_eq_true] at hn
 obtain ⟨⟨hn,hgt⟩,gO⟩:=hn
 simp only [step] at hw
 obtain ⟨cs,o5,hw⟩:=T.Fs hw
 obtain ⟨ds,fX,hw⟩:=T.Fs hw
 obtain ⟨r,hr,hw⟩:=T.Fs hw
 have h:=eqLay_ok (E:=E) (P:=P) 9980 20 t row ks hn w _ _ _ _ cs ds r r1 r2 o5 fX hr
 have h:(Op.equal t (a.eval x) (a.eval y)).run P w=.ok r w:=h
 have hk:K (.b (if neg then !r else r),st):=by cases neg<;>exact hw
 have fin:(eqGuard op t x y (a.eval x) (a.eval y)).run P w=.ok () w->(binOp op t (a.eval x) (a.eval y)).run P w=.ok (.bool (if neg then !r else r)) w->o.wp P a w next Q:=by
  intro h1 h2
  exact aG (x:=.bool (if neg then !r else r)) (by simp [execOp,ho,h1,h2]) (hc.same hs hk (.deep (.b _)))
 cases row with
 |true=>
  have hv:∃ c,d.ev fr=.agg c:=by
   cases hq:d.ev fr<;>rw [hq] at o5<;>simp [V.row] at o5
   exact ⟨_,rfl⟩
  have hu:∃ c,e.ev fr=.agg c:=by
   cases hq:e.ev fr<;>rw [hq] at fX<;>simp [V.row] at fX
   exact ⟨_,rfl⟩
  obtain ⟨c1,hv⟩:=hv
  obtain ⟨c2,hu⟩:=hu
  rw [hv] at r1
  rw [hu] at r2
  generalize xP:a.eval x=x' at r1 fin h
  generalize EO:a.eval y=y' at r2 fin h
  cases r1 with
  |deep hd=>cases hd
  |agg _ xs=>
  cases r2 with
  |deep hd=>cases hd
  |agg _ ys=>
  refine fin (run_eqGuard_agg w op t x y xs ys hgt) ?_
  have h:(Op.equalIn 10000 t (.agg xs) (.agg ys)).run P w=.ok r w:=h
  subst Bw
  cases neg with
  |true=>simp only [if_true];rw [run_neq_struct,h];rfl
  |false=>simp only [Bool.false_eq_true,if_false];rw [run_eql_struct,h];rfl
 |false=>
  have WM:ks=[.b]:=by simpa using gO
  subst WM
  have hv:∃ b,d.ev fr=.b b:=by
   cases hq:d.ev fr<;>rw [hq] at o5<;>simp [V.row] at o5<;>subst o5
   all_goals (cases ds with
    |nil=>simp [bV] at hr
    |cons q qs=>cases q<;>first|exact ⟨_,rfl⟩|simp [bV,jT] at hr)
  have hu:∃ b,e.ev fr=.b b:=by
   cases hq:e.ev fr<;>rw [hq] at fX<;>simp [V.row] at fX<;>subst fX
   all_goals (cases cs with
    |nil=>simp [bV] at hr
    |cons q qs=>cases q<;>first|exact ⟨_,rfl⟩|simp [bV,jT] at hr)
  obtain ⟨b1,hv⟩:=hv
  obtain ⟨b2,hu⟩:=hu
  rw [hv] at r1
  rw [hu] at r2
  have r1:=r1.bool
  have r2:=r2.bool
  rw [r1,r2] at h
  refine fin (by rw [r1,eqGuard_at_bool];rfl) ?_
  rw [r1,r2]
  subst Bw
  cases neg<;>simp [binOp,h]
end
open Go
def Di (P:Program) (t:TypeId):Option (TypeId×Nat×Nat):=
 match P.underlying t with
 |some (.slice el)=>match P.info? el with
  |some i=>some (el,i.size,i.bytes)
  |none=>none
 |_=>none
theorem eP {P:Program} {t el:TypeId} {sz bytes:Nat} (h:Di P t=some (el,sz,bytes)):P.underlying t=some (.slice el)/\(P.info? el).map (·.size)=some sz:=by
 unfold Di at h
 split at h
 · split at h
   · rename_i hi
     cases h
     exact ⟨‹_›,by rw [hi];rfl⟩
   · cases h
 · cases h
def blt (op:Op) (b:Builtin):Option (List Operand×Option TypeId×Option TypeId):=
 match op with
 |.call c=>match c.callee with
  |.builtin b'=>if b'=b then some (c.args.toList,c.argTypes[0]?,c.argTypes[1]?) else none
  |_=>none
 |_=>none
theorem gQ {op:Op} {b:Builtin} {xs:List Operand} {t0 t1:Option TypeId} (h:blt op b=some (xs,t0,t1)):∃ ts:Array TypeId,op=.call { callee:=.builtin b,args:=xs.toArray,argTypes:=ts }/\ts[0]? =t0/\ts[1]? =t1:=by
 unfold blt at h
 split at h
 · rename_i c
   split at h
   · rename_i b' hb
     split at h
     · rename_i Xy
       subst Xy
       simp only [Option.some.injEq,Prod.mk.injEq] at h
       obtain ⟨rfl,h0,h1⟩:=h
       refine ⟨c.argTypes,?_,h0,h1⟩
       cases c
       simp only at hb
       subst hb
       rfl
     · cases h
   · cases h
 · cases h
def zZ (P:Program) (op:Op) (A:pQ):Bool:=
 match A with
 |.mv d=>match op with
  |.move x=>b9 x d
  |_=>false
 |.IU d=>match op with
  |.assign x=>b9 x d
  |_=>false
 |.pick c d e=>match op with
  |.pick x y z=>b9 x c&&b9 y d&&b9 z e
  |_=>false
 |.alloc _ zero=>match op with
  |.alloc t=>gP P t zero
  |_=>false
 |.box _ d=>match op with
  |.box _ x=>b9 x d
  |_=>false
 |.IW zero qs=>match op with
  |.build t ps=>gP P t zero&&(match P.underlying t with
   |some (.struct fs)=>(fs.toList.all fun f=>(P.info? f.type).isSome)&&o6 P fs ps.toList qs
   |some (.array _ e)=>(match P.info? e with
    |some i=>lQ i.size ps.toList qs
    |none=>false)
   |_=>false)
  |_=>false
 |.IX _ sz len zero qs=>match op with
  |.buildSlice t l ps=>decide (l=len)&&(match Di P t with
   |some (el,_,bytes)=>zT P el sz bytes&&gP P el zero&&decide (len*sz<=16777216)&&lS ps.toList qs
   |none=>false)
  |_=>false
 |.load n d=>match op with
  |.load t x=>b9 x d&&m9 P t n
  |_=>false
 |.store n d e=>match op with
  |.store t x y=>b9 x d&&b9 y e&&decide ((P.info? t).map (·.size)=some n)
  |_=>false
 |.rG d=>match op with
  |.nilCheck x=>b9 x d
  |_=>false
 |.bin b d e=>match op with
  |.binOp b' _ x y _=>decide (b'=b)&&b9 x d&&b9 y e
  |_=>false
 |.N8 row ks neg d e=>match op with
  |.binOp b t x y _=>decide (b=if neg then .neq else .eql)&&b9 x d&&b9 y e&&JN P t row ks
  |_=>false
 |.RH neg d e=>match op with
  |.binOp b t x y _=>decide (b=if neg then .neq else .eql)&&b9 x d&&b9 y e&&JD P t e
  |_=>false
 |.un u d=>match op with
  |.unOp u' _ x=>decide (u'=u)&&b9 x d
  |_=>false
 |.N9 k d=>match op with
  |.convert s t x=>b9 x d&&(P.underlying s).isSome&&(match P.underlying t with
   |some (.int k')=>decide (k'=k)
   |_=>false)
  |_=>false
 |.Oa d=>match op with
  |.convert s t x=>b9 x d&&(P.underlying s).isSome&&(match P.underlying t with
   |some .string=>true
   |_=>false)
  |_=>false
 |.IY _ d=>match op with
  |.convert s t x=>b9 x d&&(match P.underlying s,P.underlying t with
   |some .string,some (.slice el)=>(match P.underlying el with
    |some (.int .u8)=>true
    |_=>false)
   |_,_=>false)
  |_=>false
 |.Ob d=>match op with
  |.convert s t x=>b9 x d&&decide (s=t)&&(match P.underlying t with
   |some (.slice el)=>(match P.underlying el with
    |some (.int .u8)=>true
    |_=>false)
   |_=>false)
  |_=>false
 |.Ga d=>match op with
  |.convert s t x=>b9 x d&&(match P.underlying s,P.underlying t with
   |some (.slice el),some .string=>(match P.underlying el with
    |some (.int .u8)=>true
    |_=>false)
   |_,_=>false)
  |_=>false
 |.zL f ds=>match op with
  |.makeFunc g first cap=>(match g with
   |.func f'=>decide (f'=f)&&decide (first.size=0)&&w6 cap.toList ds
   |_=>false)
  |_=>false
 |.uF _ _=>match op with
  |.makeMap _ none=>true
  |_=>false
 |.CR _ sz bytes zero d e=>match op with
  |.makeSlice t x y=>b9 x d&&b9 y e&&(match P.underlying t with
   |some (.slice el)=>zT P el sz bytes&&gP P el zero
   |_=>false)
  |_=>false
 |.pW d l h=>match op with
  |.slice t x lo hi none=>b9 x d&&m8 lo l&&m8 hi h&&(match P.underlying t with
   |some .string=>true
   |_=>false)
  |_=>false
 |.mY sz d l h mx=>match op with
  |.slice t x lo hi none=>b9 x d&&m8 lo l&&m8 hi h&&mx.isNone&&decide (0<sz)&&(match Di P t with
   |some (_,cS,_)=>decide (cS=sz)
   |none=>false)
  |.slice t x lo hi (some m)=>b9 x d&&m8 lo l&&m8 hi h&&m8 (some m) mx&&h.isSome&&mx.isSome&&decide (0<sz)&&(match Di P t with
   |some (_,cS,_)=>decide (cS=sz)
   |none=>false)
  |_=>false
 |.jS off d=>match op with
  |.fieldAddr t x f=>b9 x d&&(match P.underlying t with
   |some (.struct fs)=>(match fs[f]? with
    |some fl=>decide (fl.offset=off)&&(match P.info? fl.type with
     |some i=>decide (i.size≠0)
     |none=>false)
    |none=>false)
   |_=>false)
  |_=>false
 |.Hf off n d=>match op with
  |.field t x f=>b9 x d&&(match P.underlying t with
   |some (.struct fs)=>(match fs[f]? with
    |some fl=>decide (fl.offset=off)&&m9 P fl.type n
    |none=>false)
   |_=>false)
  |_=>false
 |.zM sz d c=>match op with
  |.indexAddr t x y=>b9 x d&&b9 y c&&(match Di P t with
   |some (_,cS,_)=>decide (cS=sz)
   |none=>false)
  |_=>false
 |.zN len sz d c=>match op with
  |.indexAddr t x y=>b9 x d&&b9 y c&&(match P.underlying t with
   |some (.array n e)=>decide (n=len)&&decide ((P.info? e).map (·.size)=some sz)
   |_=>false)
  |_=>false
 |.Od d c=>match op with
  |.index t x y=>b9 x d&&b9 y c&&(match P.underlying t with
   |some .string=>true
   |_=>false)
  |_=>false
 |.IG len sz n d c=>match op with
  |.index t x y=>b9 x d&&b9 y c&&(match P.underlying t with
   |some (.array m e)=>decide (m=len)&&decide ((P.info? e).map (·.size)=some sz)&&m9 P e n
   |_=>false)
  |_=>false
 |.IZ kd zero d e ok=>match op with
  |.lookup t x y ok'=>b9 x d&&b9 y e&&decide (ok'=ok)&&(match P.underlying t with
   |some (.map kt el)=>mS P kt kd&&(match P.info? el with
    |some i=>(match i.zero with
     |some z=>kM 4 z zero
     |none=>false)
    |none=>false)
   |_=>false)
  |_=>false
 |.zO kd d e c=>match op with
  |.mapUpdate t x y v=>b9 x d&&b9 y e&&b9 v c&&(match P.underlying t with
   |some (.map kt _)=>mS P kt kd
   |_=>false)
  |.insert t x y v=>b9 x d&&b9 y e&&b9 v c&&(match P.underlying t with
   |some (.map kt _)=>mS P kt kd
   |_=>false)
  |_=>false
 |.ext d i=>match op with
  |.extract x j=>b9 x d&&decide (j=i)
  |_=>false
 |.call f ds=>match op with
  |.call c=>(match c.callee with
   |.value (.func g)=>decide (g=f)&&w6 c.args.toList ds
   |_=>false)
  |_=>false
 |.pX g ds=>match op with
  |.call c=>(match c.callee with
   |.value f=>b9 f g&&w6 c.args.toList ds
   |_=>false)
  |_=>false
 |.zP d=>match blt op .len with
  |some ([x],some t,_)=>b9 x d&&(match P.underlying t with
   |some .string=>true
   |_=>false)
  |_=>false
 |.zQ d=>match blt op .len with
  |some ([x],some t,_)=>b9 x d&&(match P.underlying t with
   |some (.slice _)=>true
   |_=>false)
  |_=>false
 |.zR n=>match blt op .len with
  |some ([_],some t,_)=>(match P.underlying t with
   |some (.array m _)=>decide (m=n)
   |_=>false)
  |_=>false
 |.zS d=>match blt op .len with
  |some ([x],some t,_)=>b9 x d&&(match P.underlying t with
   |some (.map _ _)=>true
   |_=>false)
  |_=>false
 |.rH max ds=>match blt op (if max then .max else .min) with
  |some (xs,_,_)=>w6 xs ds
  |none=>false
 |.append _ sz bytes d e=>match blt op .append with
  |some ([s,x],some t,t1)=>b9 s d&&b9 x e&&kZ P t1&&(match P.underlying t with
   |some (.slice el)=>zT P el sz bytes
   |_=>false)
  |_=>false
 |.copy sz d e=>match blt op .copy with
  |some ([x,y],some t,_)=>b9 x d&&b9 y e&&(match Di P t with
   |some (_,cS,_)=>decide (cS=sz)
   |none=>false)
  |_=>false
 |.delete kd d e=>match blt op .delete with
  |some ([x,y],some t,_)=>b9 x d&&b9 y e&&(match P.underlying t with
   |some (.map kt _)=>mS P kt kd
   |_=>false)
  |_=>false
 |.clear sz zero d=>match blt op .clear with
  |some ([x],some t,_)=>b9 x d&&(match Di P t with
   |some (el,_,bytes)=>zT P el sz bytes&&gP P el zero
   |none=>false)
  |_=>false
 |.no=>true
section
variable {P:Program} {o:Oper} {a:Act} {E:Env} {N:Nat} {st:St} {w:World} {fr:Fr} {next:Act->World->Prop} {Q:Exit->Act->World->Prop} {K:R->Prop}
theorem step_ok {A:pQ} (h:zZ P o.op A=true) (hs:bC E st w) (hf:aJ E N fr a) (hw:(step A fr st).wp (aB P) K) (hc:dJ E st w o a next K):o.wp P a w next Q:=by
 cases A<;>simp only [zZ] at h
 case mv=>split at h<;>first|exact OD ‹_› h hs hf hw hc|cases h
 case IU=>split at h<;>first|exact I9 ‹_› h hs hf hw hc|cases h
 case pick=>
  split at h
  · simp only [Bool.and_eq_true] at h;exact Hg ‹_› h.1.1 h.1.2 h.2 hs hf hw hc
  · cases h
 case alloc=>split at h<;>first|exact E8 ‹_› h hs hw hc|cases h
 case box=>split at h<;>first|exact Jk ‹_› h hs hf hw hc|cases h
 case IW=>
  split at h
  · simp only [Bool.and_eq_true] at h
    obtain ⟨h1,h2⟩:=h
    split at h2
    · simp only [Bool.and_eq_true] at h2
      exact Fe ‹_› h1 ‹_› h2.1 h2.2 hs hf hw hc
    · split at h2
      · rename_i hi
        exact Ff ‹_› h1 ‹_› (by rw [hi];rfl) h2 hs hf hw hc
      · cases h2
    · cases h2
  · cases h
 case IX=>
  split at h
  · simp only [Bool.and_eq_true,decide_eq_true_eq] at h
    obtain ⟨rfl,h2⟩:=h
    split at h2
    · rename_i he
      simp only [Bool.and_eq_true,decide_eq_true_eq] at h2
      exact Jx ‹_› (eP he).1 h2.1.1.1 h2.1.1.2 h2.1.2 h2.2 hs hf hw hc
    · cases h2
  · cases h
 case load=>
  split at h
  · simp only [Bool.and_eq_true] at h;exact Hl ‹_› h.1 h.2 hs hf hw hc
  · cases h
 case store=>
  split at h
  · simp only [Bool.and_eq_true,decide_eq_true_eq] at h;exact E7 ‹_› h.1.1 h.1.2 h.2 hs hf hw hc
  · cases h
 case rG=>split at h<;>first|exact Hi ‹_› h hs hf hw hc|cases h
 case bin=>
  split at h
  · simp only [Bool.and_eq_true,decide_eq_true_eq] at h
    obtain ⟨⟨rfl,h1⟩,h2⟩:=h
    exact Jb ‹_› h1 h2 hs hf hw hc
  · cases h
 case N8=>
  split at h
  · simp only [Bool.and_eq_true,decide_eq_true_eq] at h
    exact JO ‹_› h.1.1.1 h.1.1.2 h.1.2 h.2 hs hf hw hc
  · cases h
 case RH=>
  split at h
  · simp only [Bool.and_eq_true,decide_eq_true_eq] at h
    exact JG ‹_› h.1.1.1 h.1.1.2 h.1.2 h.2 hs hf hw hc
  · cases h
 case un=>
  split at h
  · simp only [Bool.and_eq_true,decide_eq_true_eq] at h
    obtain ⟨rfl,h1⟩:=h
    exact OF ‹_› h1 hs hf hw hc
  · cases h
 case N9=>
  split at h
  · simp only [Bool.and_eq_true] at h
    obtain ⟨⟨h1,h2⟩,h3⟩:=h
    split at h3
    · simp only [decide_eq_true_eq] at h3
      subst h3
      exact Jc ‹_› h1 h2 ‹_› hs hf hw hc
    · cases h3
  · cases h
 case Oa=>
  split at h
  · simp only [Bool.and_eq_true] at h
    obtain ⟨⟨h1,h2⟩,h3⟩:=h
    split at h3
    · exact Jd ‹_› h1 h2 ‹_› hs hf hw hc
    · cases h3
  · cases h
 case IY=>
  split at h
  · simp only [Bool.and_eq_true] at h
    obtain ⟨h1,h3⟩:=h
    split at h3
    · rename_i hA hB
      split at h3
      · exact Jz ‹_› h1 hA hB ‹_› hs hf hw hc
      · cases h3
    · cases h3
  · cases h
 case Ob=>
  split at h
  · simp only [Bool.and_eq_true,decide_eq_true_eq] at h
    obtain ⟨⟨h1,rfl⟩,h3⟩:=h
    split at h3
    · rename_i hA
      split at h3
      · exact JB ‹_› h1 hA ‹_› hs hf hw hc
      · cases h3
    · cases h3
  · cases h
 case Ga=>
  split at h
  · simp only [Bool.and_eq_true] at h
    obtain ⟨h1,h3⟩:=h
    split at h3
    · rename_i hA hB
      split at h3
      · exact JC ‹_› h1 hA ‹_› hB hs hf hw hc
      · cases h3
    · cases h3
  · cases h
 case zL=>
  split at h
  · split at h
    · simp only [Bool.and_eq_true,decide_eq_true_eq] at h
      obtain ⟨⟨rfl,h1⟩,h2⟩:=h
      exact Hk ‹_› h1 h2 hs hf hw hc
    · cases h
  · cases h
 case uF=>split at h<;>first|exact E9 ‹_› hs hw hc|cases h
 case CR=>
  split at h
  · simp only [Bool.and_eq_true] at h
    obtain ⟨⟨h1,h2⟩,h3⟩:=h
    split at h3
    · simp only [Bool.and_eq_true] at h3
      exact Hq ‹_› h1 h2 ‹_› h3.1 h3.2 hs hf hw hc
    · cases h3
  · cases h
 case pW=>
  split at h
  · simp only [Bool.and_eq_true] at h
    obtain ⟨⟨⟨h1,h2⟩,h3⟩,h4⟩:=h
    split at h4
    · exact Fk ‹_› ‹_› h1 h2 h3 hs hf hw hc
    · cases h4
  · cases h
 case mY=>
  split at h
  · simp only [Bool.and_eq_true,decide_eq_true_eq,Option.isNone_iff_eq_none] at h
    obtain ⟨⟨⟨⟨⟨h1,h2⟩,h3⟩,rfl⟩,h5⟩,h4⟩:=h
    split at h4
    · rename_i he
      simp only [decide_eq_true_eq] at h4
      subst h4
      exact Hv ‹_› (eP he).1 (eP he).2 h5 h1 h2 h3 hs hf hw hc
    · cases h4
  · simp only [Bool.and_eq_true,decide_eq_true_eq] at h
    obtain ⟨⟨⟨⟨⟨⟨⟨h1,h2⟩,h3⟩,h6⟩,h7⟩,h8⟩,h5⟩,h4⟩:=h
    split at h4
    · rename_i he
      simp only [decide_eq_true_eq] at h4
      subst h4
      exact Fm ‹_› (eP he).1 (eP he).2 h5 h1 h2 h3 h6 h7 h8 hs hf hw hc
    · cases h4
  · cases h
 case jS=>
  split at h
  · simp only [Bool.and_eq_true] at h
    obtain ⟨h1,h2⟩:=h
    split at h2
    · rename_i hu
      split at h2
      · rename_i w8
        simp only [Bool.and_eq_true,decide_eq_true_eq] at h2
        obtain ⟨h3,h4⟩:=h2
        split at h4
        · rename_i i hi
          simp only [decide_eq_true_eq] at h4
          exact EZ ‹_› h1 hu w8 h3 ⟨i,hi,h4⟩ hs hf hw hc
        · cases h4
      · cases h2
    · cases h2
  · cases h
 case Hf=>
  split at h
  · simp only [Bool.and_eq_true] at h
    obtain ⟨h1,h2⟩:=h
    split at h2
    · rename_i hu
      split at h2
      · rename_i w8
        simp only [Bool.and_eq_true,decide_eq_true_eq] at h2
        exact Je ‹_› h1 hu w8 h2.1 h2.2 hs hf hw hc
      · cases h2
    · cases h2
  · cases h
 case zM=>
  split at h
  · simp only [Bool.and_eq_true] at h
    obtain ⟨⟨h1,h2⟩,h3⟩:=h
    split at h3
    · rename_i he
      simp only [decide_eq_true_eq] at h3
      subst h3
      exact Hw ‹_› h1 h2 (eP he).1 (eP he).2 hs hf hw hc
    · cases h3
  · cases h
 case zN=>
  split at h
  · simp only [Bool.and_eq_true] at h
    obtain ⟨⟨h1,h2⟩,h3⟩:=h
    split at h3
    · simp only [Bool.and_eq_true,decide_eq_true_eq] at h3
      obtain ⟨rfl,h4⟩:=h3
      exact Hj ‹_› h1 h2 ‹_› h4 hs hf hw hc
    · cases h3
  · cases h
 case Od=>
  split at h
  · simp only [Bool.and_eq_true] at h
    obtain ⟨⟨h1,h2⟩,h3⟩:=h
    split at h3
    · exact Jf ‹_› h1 h2 ‹_› hs hf hw hc
    · cases h3
  · cases h
 case IG=>
  split at h
  · simp only [Bool.and_eq_true] at h
    obtain ⟨⟨h1,h2⟩,h3⟩:=h
    split at h3
    · simp only [Bool.and_eq_true,decide_eq_true_eq] at h3
      obtain ⟨⟨rfl,h4⟩,h5⟩:=h3
      exact Jg ‹_› h1 h2 ‹_› h4 h5 hs hf hw hc
    · cases h3
  · cases h
 case IZ=>
  split at h
  · simp only [Bool.and_eq_true,decide_eq_true_eq] at h
    obtain ⟨⟨⟨h1,h2⟩,rfl⟩,h3⟩:=h
    split at h3
    · rename_i hu
      simp only [Bool.and_eq_true] at h3
      obtain ⟨h4,h5⟩:=h3
      split at h5
      · rename_i hi
        split at h5
        · rename_i hz
          exact JI ‹_› hu h4 hi hz h5 h1 h2 hs hf hw hc
        · cases h5
      · cases h5
    · cases h3
  · cases h
 case zO=>
  split at h
  · simp only [Bool.and_eq_true] at h
    obtain ⟨⟨⟨h1,h2⟩,h3⟩,h4⟩:=h
    split at h4
    · exact AN (.inl ‹_›) ‹_› h4 h1 h2 h3 hs hf hw hc
    · cases h4
  · simp only [Bool.and_eq_true] at h
    obtain ⟨⟨⟨h1,h2⟩,h3⟩,h4⟩:=h
    split at h4
    · exact AN (.inr ‹_›) ‹_› h4 h1 h2 h3 hs hf hw hc
    · cases h4
  · cases h
 case ext=>
  split at h
  · simp only [Bool.and_eq_true,decide_eq_true_eq] at h
    obtain ⟨h1,rfl⟩:=h
    exact Jh ‹_› h1 hs hf hw hc
  · cases h
 case call=>
  split at h
  · rename_i c heq
    split at h
    · rename_i g Oh
      simp only [Bool.and_eq_true,decide_eq_true_eq] at h
      obtain ⟨rfl,h2⟩:=h
      cases c
      simp only at Oh h2
      subst Oh
      exact HC heq h2 hs hf hw hc
    · cases h
  · cases h
 case pX=>
  split at h
  · rename_i c heq
    split at h
    · rename_i g Oh
      simp only [Bool.and_eq_true] at h
      cases c
      simp only at Oh h
      subst Oh
      exact Fq heq h.1 h.2 hs hf hw hc
    · cases h
  · cases h
 case zP=>
  split at h
  · rename_i hb
    obtain ⟨ts,h1,h2,_⟩:=gQ hb
    simp only [Bool.and_eq_true] at h
    obtain ⟨h3,h4⟩:=h
    split at h4
    · exact Hr h1 h2 ‹_› h3 hs hf hw hc
    · cases h4
  · cases h
 case zQ=>
  split at h
  · rename_i hb
    obtain ⟨ts,h1,h2,_⟩:=gQ hb
    simp only [Bool.and_eq_true] at h
    obtain ⟨h3,h4⟩:=h
    split at h4
    · exact Hs h1 h2 ‹_› h3 hs hf hw hc
    · cases h4
  · cases h
 case zR=>
  split at h
  · rename_i hb
    obtain ⟨ts,h1,h2,_⟩:=gQ hb
    split at h
    · simp only [decide_eq_true_eq] at h
      subst h
      exact Ht h1 h2 ‹_› hs hw hc
    · cases h
  · cases h
 case zS=>
  split at h
  · rename_i hb
    obtain ⟨ts,h1,h2,_⟩:=gQ hb
    simp only [Bool.and_eq_true] at h
    obtain ⟨h3,h4⟩:=h
    split at h4
    · exact Hu h1 h2 ‹_› h3 hs hf hw hc
    · cases h4
  · cases h
 case rH=>
  split at h
  · rename_i hb
    obtain ⟨ts,h1,h2,_⟩:=gQ hb
    exact Hz h1 (by simpa using h) hs hf hw hc
  · cases h
 case append=>
  split at h
  · rename_i hb
    obtain ⟨ts,h1,h2,WN⟩:=gQ hb
    simp only [Bool.and_eq_true] at h
    obtain ⟨⟨⟨h3,h4⟩,h5⟩,h6⟩:=h
    split at h6
    · exact step_append h1 h2 ‹_› h6 (by rw [WN];exact h5) h3 h4 hs hf hw hc
    · cases h6
  · cases h
 case copy=>
  split at h
  · rename_i hb
    obtain ⟨ts,h1,h2,WN⟩:=gQ hb
    simp only [Bool.and_eq_true] at h
    obtain ⟨⟨h3,h4⟩,h5⟩:=h
    split at h5
    · rename_i he
      simp only [decide_eq_true_eq] at h5
      subst h5
      exact Hy h1 h2 (eP he).1 (eP he).2 h3 h4 hs hf hw hc
    · cases h5
  · cases h
 case delete=>
  split at h
  · rename_i hb
    obtain ⟨ts,h1,h2,WN⟩:=gQ hb
    simp only [Bool.and_eq_true] at h
    obtain ⟨⟨h3,h4⟩,h5⟩:=h
    split at h5
    · exact Df h1 h2 ‹_› h5 h3 h4 hs hf hw hc
    · cases h5
  · cases h
 case clear=>
  split at h
  · rename_i hb
    obtain ⟨ts,h1,h2,WN⟩:=gQ hb
    simp only [Bool.and_eq_true] at h
    obtain ⟨h3,h5⟩:=h
    split at h5
    · rename_i he
      simp only [Bool.and_eq_true] at h5
      exact Fo h1 h2 (eP he).1 h5.1 h5.2 h3 hs hf hw hc
    · cases h5
  · cases h
 case no=>exact hw.elim
end
open Go
theorem bG {n:Nat}:∀ {l:List Nat},bK n l=true↔n∈l
 |[]=>by simp [bK]
 |k::r=>by
  simp only [bK,List.mem_cons]
  cases h:Nat.beq n k with
  |true=>have:=Nat.eq_of_beq_eq_true h;simp [this]
  |false=>
   have:n≠k:=Nat.ne_of_beq_eq_false h
   simp [this,bG]
theorem V.force_eq {α:Type} (v:V) (k:V->α):v.force k=k v:=by cases v<;>rfl
def Fr.gR (fr:Fr) (ks:List Nat):Fr:=fr.filter fun q=>!bK q.1 ks
theorem Fr.bL {α:Type} (ks:List Nat):∀ (fr:Fr) (k:Fr->α),fr.cut ks k=k (fr.gR ks)
 |[],k=>rfl
 |(n,v)::r,k=>by
  simp only [Fr.cut]
  cases h:bK n ks with
  |true=>simp only;rw [Fr.bL ks r];simp [Fr.gR,h]
  |false=>simp only;rw [Fr.bL ks r];simp [Fr.gR,h]
theorem Fr.cR (ks:List Nat) (t:Nat):∀ fr:Fr,(fr.gR ks).get t=if bK t ks then .a8 else fr.get t
 |[]=>by simp [Fr.gR,Fr.get]
 |(n,v)::r=>by
  have ih:=Fr.cR ks t r
  simp only [Fr.gR] at ih ⊢
  by_cases hn:n=t
  · subst hn
    cases h:bK n ks with
    |true=>rw [List.filter_cons_of_neg (by simp [h])];rw [ih,h];rfl
    |false=>rw [List.filter_cons_of_pos (by simp [h])];simp [Fr.get]
  · by_cases h:bK n ks=true
    · rw [List.filter_cons_of_neg (by simp [h]),ih]
      simp [Fr.get,hn]
    · rw [List.filter_cons_of_pos (by simp [h])]
      simp only [Fr.get,if_neg hn]
      exact ih
def Fr.next (fr:Fr) (dst:Option Nat) (v:V) (kill:List Nat):Fr:=
 match dst with
 |some d=>match kill with
  |[]=>(d,v)::fr
  |x::ks=>if bK d (x::ks) then fr.gR (d::x::ks) else (d,v)::fr.gR (d::x::ks)
 |none=>match kill with
  |[]=>fr
  |x::ks=>fr.gR (x::ks)
theorem Fr.bJ {α:Type} (fr:Fr) (dst:Option Nat) (v:V) (kill:List Nat) (k:Fr->α):fr.after dst v kill k=k (fr.next dst v kill):=by
 unfold Fr.after Fr.next
 cases dst with
 |none=>
  cases kill with
  |nil=>rfl
  |cons x ks=>simp only;rw [Fr.bL]
 |some d=>
  cases kill with
  |nil=>simp only;rw [V.force_eq]
  |cons x ks=>
   simp only
   cases h:bK d (x::ks) with
   |true=>simp only;rw [Fr.bL];simp
   |false=>simp only;rw [Fr.bL,V.force_eq];simp
theorem Fr.fD (fr:Fr) (dst:Option Nat) (v:V) (kill:List Nat) (t:Nat):(fr.next dst v kill).get t=if bK t kill then .a8 else if dst=some t then v else fr.get t:=by
 cases dst with
 |none=>
  cases kill with
  |nil=>simp [Fr.next,bK]
  |cons x ks=>simp [Fr.next,Fr.cR]
 |some d=>
  cases kill with
  |nil=>
   simp only [Fr.next,Fr.get,bK,Bool.false_eq_true,if_false,Option.some.injEq]
  |cons x ks=>
   simp only [Fr.next,Option.some.injEq]
   by_cases hm:bK d (x::ks)=true
   · rw [if_pos hm,Fr.cR]
     by_cases ht:bK t (x::ks)=true
     · rw [if_pos ht,if_pos (by rw [bG] at ht ⊢;exact .tail _ ht)]
     · have cO:¬d=t:=fun e=>ht (e▸hm)
       rw [if_neg ht,if_neg cO,if_neg]
       rw [bG] at ht ⊢
       intro R9
       rcases List.mem_cons.1 R9 with rfl|R9
       · exact cO rfl
       · exact ht R9
   · rw [if_neg hm]
     simp only [Fr.get]
     by_cases hd:d=t
     · subst hd;rw [if_pos rfl,if_neg hm,if_pos rfl]
     · rw [if_neg hd,if_neg hd,Fr.cR]
       by_cases ht:bK t (x::ks)=true
       · rw [if_pos ht,if_pos (by rw [bG] at ht ⊢;exact .tail _ ht)]
       · rw [if_neg ht,if_neg]
         rw [bG] at ht ⊢
         intro R9
         rcases List.mem_cons.1 R9 with rfl|R9
         · exact hd rfl
         · exact ht R9
theorem aJ.next {E:Env} {N:Nat} {fr:Fr} {a:Act} (h:aJ E N fr a) {dst:Option Nat} (hd:∀ d,dst=some d->d<N) {v:V} {x:Value} (hr:Rel E v x) (kill:List Nat):aJ E N (fr.next dst v kill) (a.put dst x):=by
 refine ⟨by cases dst<;>simp [Act.put,h.size],fun t=>?_⟩
 rw [Fr.fD]
 split
 · exact .a8 _
 · split
   · rename_i ht
     subst ht
     have cQ:t<a.tmps.size:=by rw [h.size];exact hd t rfl
     simp only [Act.put,Array.getD_eq_getD_getElem?]
     simp [cQ]
     exact hr
   · rename_i ht
     cases dst with
     |none=>exact h.rel t
     |some d=>
      have cO:d≠t:=fun e=>ht (by rw [e])
      have:(a.put (some d) x).tmps.getD t undef=a.tmps.getD t undef:=by
       simp only [Act.put,Array.getD_eq_getD_getElem?]
       rw [Array.getElem?_setIfInBounds_ne cO]
      rw [this]
      exact h.rel t
theorem put_defers (a:Act) (dst:Option Nat) (x:Value):(a.put dst x).defers=a.defers:=by cases dst<;>rfl
def gS (ops:Array Oper):Option (Nat×Bool)->Option (Nat×Bool)->Bool
 |none,none=>true
 |some (j,w),some (t,w')=>decide (w=w')&&(match ops[j]? with
  |some o=>decide (o.dst=some t)
  |none=>false)
 |_,_=>false
def Dj (N:Nat):Option Nat->Bool
 |some d=>decide (d<N)
 |none=>true
def p5 (P:Program) (N:Nat) (ops:Array Oper):List Oper->List cD->Bool
 |[],[]=>true
 |o::l,A::aeN=>zZ P o.op A.op&&decide (A.dst=o.dst)&&Dj N o.dst&&gS ops o.guard A.guard&&p5 P N ops l aeN
 |_,_=>false
theorem aJ.same {E:Env} {N:Nat} {fr:Fr} {a:Act} (h:aJ E N fr a) {t:Nat} {v:V} (hv:fr.get t=v):aJ E N ((t,v)::fr.gR [t]) a:=by
 refine ⟨h.size,fun t'=>?_⟩
 simp only [Fr.get]
 by_cases ht:t=t'
 · subst ht;rw [if_pos rfl,<-hv];exact h.rel t
 · rw [if_neg ht,Fr.cR]
   split
   · exact .a8 _
   · exact h.rel t'
section
variable {P:Program} {N:Nat} {ops:Array Oper} {Q:Exit->Act->World->Prop} {K:Fr×St->Prop}
theorem AP {E:Env} {fr:Fr} {a:Act} (hf:aJ E N fr a) {j t:Nat} {o:Oper} (ho:ops[j]? =some o) (hd:o.dst=some t) {b:Bool} (hv:fr.get t=.b b):yielded ops a.tmps j=some b:=by
 have h:=hf.rel t
 rw [hv] at h
 have h:=h.bool
 simp only [yielded,ho,Option.bind_some,hd]
 simp only [Array.getD_eq_getD_getElem?] at h
 cases hq:a.tmps[t]? with
 |none=>rw [hq] at h;simp [undef] at h
 |some x=>rw [hq] at h;simp at h;rw [h]
theorem AQ {E:Env} {fr:Fr} {a:Act} (hf:aJ E N fr a) {j t:Nat} {o:Oper} (ho:ops[j]? =some o) (hd:o.dst=some t) {cs:List V} (hv:fr.get t=.bO cs):yielded ops a.tmps j=none:=by
 have h:=hf.rel t
 rw [hv] at h
 simp only [yielded,ho,Option.bind_some,hd]
 simp only [Array.getD_eq_getD_getElem?] at h
 cases hq:a.tmps[t]? with
 |none=>rfl
 |some x=>
  rw [hq] at h
  simp only [Option.getD_some] at h
  cases h with
  |deep hd=>cases hd
  |bO=>rfl
theorem xQ (more:List Nat):∀ (aeN:List cD) (l:List Oper) (i:Nat),p5 P N ops l aeN=true->(∀ k o,l[k]? =some o->ops[i+k]? =some o)->
 ∀ {E:Env} {st:St} {w:World} {fr:Fr} {a:Act},bC E st w->aJ E N fr a->(cM aeN fr st).wp (aB P) K->
  (∀ bH aR E' a' w',K (bH,aR)->bC E' aR w'->Ext E st w E' aR w'->aJ E' N bH a'->a'.defers=a.defers->wpOps P ops Q more a' w')->
  wpOps P ops Q (List.range' i l.length++more) a w
 |[],[],i,_,_,E,st,w,fr,a,hs,hf,hw,hQ=>hQ fr st E a w hw hs (.refl E st w) hf rfl
 |[],_::_,i,hk,_,E,st,w,fr,a,hs,hf,hw,hQ=>by simp [p5] at hk
 |_::_,[],i,hk,_,E,st,w,fr,a,hs,hf,hw,hQ=>by simp [p5] at hk
 |A::aeN,o::l,i,hk,UP,E,st,w,fr,a,hs,hf,hw,hQ=>by
  simp only [p5,Bool.and_eq_true,decide_eq_true_eq] at hk
  obtain ⟨⟨⟨⟨k1,k2⟩,k3⟩,k4⟩,k5⟩:=hk
  have ho:ops[i]? =some o:=UP 0 o rfl
  have UQ:∀ d,o.dst=some d->d<N:=fun d hd=>by rw [hd] at k3;simpa [Dj] using k3
  have UR:∀ k o',l[k]? =some o'->ops[i+1+k]? =some o':=fun k o' h=>by
   have:=UP (k+1) o' (by simpa using h)
   rwa [show i+1+k=i+(k+1) by omega]
  -- EI rest,from US state EI operation leaves
  have rest:∀ {E':Env} {aR:St} {w':World} {bH:Fr} {a':Act},bC E' aR w'->Ext E st w E' aR w'->aJ E' N bH a'->a'.defers=a.defers->(cM aeN bH aR).wp (aB P) K->wpOps P ops Q (List.range' (i+1) l.length++more) a' w':=by
   intro E' aR w' bH a' s1 s2 s3 s4 Jt
   exact xQ more aeN l (i+1) k5 UR s1 s3 Jt (fun f2 Gl E2 a2 w2 h1 h2 h3 h4 h5=>hQ f2 Gl E2 a2 w2 h1 h2 (s2.trans h3) h4 (h5.trans s4))
  -- EI operation is carried out
  have Dk:∀ {fY:Fr},aJ E N fY a->((step A.op fY st).bind fun x=>match x with
   |(v,st)=>fY.after A.dst v A.kill fun fr=>cM aeN fr st).wp (aB P) K->o.wp P a w (wpOps P ops Q (List.range' (i+1) l.length++more)) Q:=by
   intro fY pS UT
   rw [T.wp_bind] at UT
   refine step_ok k1 hs pS UT ?_
   intro v aR E' w' x By s1 s2 hr
   dsimp only at By
   rw [Fr.bJ] at By
   refine rest s1 s2 (aJ.next (pS.mono s2.le) UQ hr A.kill) (put_defers _ _ _) ?_
   rw [<-k2];exact By
  have skip:∀ {fY:Fr},aJ E N fY a->(fY.after A.dst (.bO []) A.kill fun fr=>cM aeN fr st).wp (aB P) K->wpOps P ops Q (List.range' (i+1) l.length++more) (a.put o.dst undef) w:=by
   intro fY pS UT
   rw [Fr.bJ] at UT
   refine rest hs (.refl E st w) (aJ.next pS UQ dN A.kill) (put_defers _ _ _) ?_
   rw [<-k2];exact UT
  rw [List.length_cons,List.range'_succ,List.cons_append]
  simp only [wpOps,ho]
  simp only [cM] at hw
  split at hw
  · rename_i XJ
    have hg:o.guard=none:=by
     rw [XJ] at k4
     cases hg:o.guard with
     |none=>rfl
     |some q=>rw [hg] at k4;cases q;simp [gS] at k4
    rw [if_pos (by simp [Region.wanted,hg])]
    exact .inl (Dk hf hw)
  · rename_i t want XJ
    rw [XJ] at k4
    cases hg:o.guard with
    |none=>rw [hg] at k4;simp [gS] at k4
    |some q=>
    obtain ⟨j,ZO⟩:=q
    rw [hg] at k4
    simp only [gS,Bool.and_eq_true,decide_eq_true_eq] at k4
    obtain ⟨rfl,k4⟩:=k4
    split at k4
    case h_2=>cases k4
    rename_i oj UU
    simp only [decide_eq_true_eq] at k4
    split at hw
    · rename_i x hx
      have hy:=AP hf UU k4 hx
      have pS:=hf.same hx
      split at hw
      · cases x with
        |true=>
         have hw:=hw.1 rfl
         rw [Fr.bL] at hw
         rw [if_pos (by simp [Region.wanted,hg,hy])]
         exact .inl (Dk pS hw)
        |false=>
         have hw:=hw.2 rfl
         rw [Fr.bL] at hw
         rw [if_neg (by simp [Region.wanted,hg,hy])]
         exact skip pS hw
      · cases x with
        |true=>
         have hw:=hw.1 rfl
         rw [Fr.bL] at hw
         rw [if_neg (by simp [Region.wanted,hg,hy])]
         exact skip pS hw
        |false=>
         have hw:=hw.2 rfl
         rw [Fr.bL] at hw
         rw [if_pos (by simp [Region.wanted,hg,hy])]
         exact .inl (Dk pS hw)
    · rename_i cs hx
      have hy:=AQ hf UU k4 hx
      rw [if_neg (by simp [Region.wanted,hg,hy])]
      exact skip hf hw
    · exact hw.elim
theorem ops_ok (aeN:List cD) (l:List Oper) (i:Nat) (hk:p5 P N ops l aeN=true) (ho:∀ k o,l[k]? =some o->ops[i+k]? =some o)
 {E:Env} {st:St} {w:World} {fr:Fr} {a:Act} (hs:bC E st w) (hf:aJ E N fr a) (hw:(cM aeN fr st).wp (aB P) K)
  (hQ:∀ bH aR E' a' w',K (bH,aR)->bC E' aR w'->Ext E st w E' aR w'->aJ E' N bH a'->a'.defers=a.defers->Q .normal a' w'):
  wpOps P ops Q (List.range' i l.length) a w:=by
 have:=xQ [] aeN l i hk ho hs hf hw hQ
 rwa [List.append_nil] at this
end
end Go.Eng
