/-
Heaps: what is found behind a push, a turn, a removal.
-/
import Derived.Test.YtdjbjnnfmkoceaaGreatYEngSym
import Derived.Test.YtdjbjnnfmkoceaaGreatY05
set_option linter.unusedVariables false
set_option linter.unusedSimpArgs false
namespace Go.Eng
theorem aC.jA {n m:Nat} (h:m≠n) (x:Obj):∀ l:List (Nat×Obj),aC.find (aC.zV l n x) m=aC.find l m
 |[]=>rfl
 |(k,o)::r=>by
  simp only [aC.zV]
  by_cases hk:k=n
  · rw [if_pos hk]
    simp only [aC.find]
    rw [if_neg (by rw [hk];exact fun e=>h e.symm),if_neg (by rw [hk];exact fun e=>h e.symm)]
  · rw [if_neg hk]
    simp only [aC.find]
    rw [aC.jA h x r]
theorem aC.yB {n:Nat} (x:Obj):∀ {l:List (Nat×Obj)} {o:Obj},aC.find l n=some o->aC.find (aC.zV l n x) n=some x
 |[],o,h=>by simp [aC.find] at h
 |(k,o')::r,o,h=>by
  simp only [aC.zV]
  by_cases hk:k=n
  · rw [if_pos hk];simp [aC.find,hk]
  · rw [if_neg hk]
    simp only [aC.find,if_neg hk] at h ⊢
    exact aC.yB x h
theorem aC.uO {n m:Nat} (h:m≠n):∀ l:List (Nat×Obj),aC.find (aC.del l n) m=aC.find l m
 |[]=>rfl
 |(k,o)::r=>by
  simp only [aC.del]
  by_cases hk:k=n
  · rw [if_pos hk,aC.uO h r]
    simp only [aC.find]
    rw [if_neg (by rw [hk];exact fun e=>h e.symm)]
  · rw [if_neg hk]
    simp only [aC.find]
    rw [aC.uO h r]
theorem aC.e7 (h:aC) (o:Obj):(h.push o).get h.next=some o:=by simp [aC.push,aC.get,aC.find]
theorem aC.BR {h:aC} {o:Obj} {n:Nat} (hn:n≠h.next):(h.push o).get n=h.get n:=by
 simp only [aC.push,aC.get,aC.find]
 rw [if_neg fun e=>hn e.symm]
theorem aC.eY {h:aC} {o o':Obj} {n:Nat} (hn:h.get n=some o'):(h.set n o).get n=some o:=aC.yB o hn
theorem aC.DI {h:aC} {o:Obj} {n m:Nat} (hn:m≠n):(h.set n o).get m=h.get m:=aC.jA hn o _
theorem aC.yC {h:aC} {n m:Nat} (hn:m≠n):(h.remove n).get m=h.get m:=aC.uO hn _
theorem aC.gp {h:aC} {o:Obj} {n:Nat} {x:Obj} (hn:n≠h.next) (hx:h.get n=some x):(h.push o).get n=some x:=by rw [aC.BR hn];exact hx
theorem aC.gs {h:aC} {o:Obj} {n m:Nat} {x:Obj} (hn:m≠n) (hx:h.get m=some x):(h.set n o).get m=some x:=by rw [aC.DI hn];exact hx
theorem aC.gr {h:aC} {n m:Nat} {x:Obj} (hn:m≠n) (hx:h.get m=some x):(h.remove n).get m=some x:=by rw [aC.yC hn];exact hx
structure aC.dE (but:Nat->Prop) (h h':aC):Prop where
 next:h.next<=h'.next
 same:∀ n,n<h.next->¬but n->h'.get n=h.get n
theorem aC.dE.refl (b:Nat->Prop) (h:aC):aC.dE b h h:=⟨Nat.le_refl _,fun _ _ _=>rfl⟩
theorem aC.dE.trans {b:Nat->Prop} {h1 h2 h3:aC} (a:aC.dE b h1 h2) (c:aC.dE b h2 h3):aC.dE b h1 h3:=
 ⟨Nat.le_trans a.next c.next,fun n hn hb=>(c.same n (Nat.lt_of_lt_of_le hn a.next) hb).trans (a.same n hn hb)⟩
theorem aC.dE.push {b:Nat->Prop} {h h':aC} (a:aC.dE b h h') (o:Obj):aC.dE b h (h'.push o):=
 ⟨Nat.le_succ_of_le a.next,fun n hn hb=>(aC.BR (by have:=a.next;omega)).trans (a.same n hn hb)⟩
theorem aC.dE.set {b:Nat->Prop} {h h':aC} (a:aC.dE b h h') {k:Nat} (hk:b k\/h.next<=k) (o:Obj):aC.dE b h (h'.set k o):=
 ⟨a.next,fun n hn hb=>(aC.DI (by rintro rfl;rcases hk with hk|hk;exact hb hk;omega)).trans (a.same n hn hb)⟩
theorem aC.dE.remove {b:Nat->Prop} {h h':aC} (a:aC.dE b h h') {k:Nat} (hk:b k\/h.next<=k):aC.dE b h (h'.remove k):=
 ⟨a.next,fun n hn hb=>(aC.yC (by rintro rfl;rcases hk with hk|hk;exact hb hk;omega)).trans (a.same n hn hb)⟩
theorem aC.dE.mono {b b':Nat->Prop} {h h':aC} (a:aC.dE b h h') (hb:∀ n,n<h.next->b n->b' n):aC.dE b' h h':=
 ⟨a.next,fun n hn hn'=>a.same n hn fun h=>hn' (hb n hn h)⟩
open Go
theorem ajQ {α δ:Type} (n:α) (k:δ->α):bM none n k=n:=rfl
theorem ajR {α δ:Type} (x:δ) (n:α) (k:δ->α):bM (some x) n k=k x:=rfl
theorem aoZ (fr:Fr):bH.tJ fr none=none:=rfl
theorem ahY (fr:Fr) (w:bH):bH.tJ fr (some w)=some (w.ev fr):=rfl
section
variable {f:Fc} {fr:Fr} {r:Rz} {A:bK} {rf:Rf} {m:SM} {st:St} {k:Kz} {P:R->Prop}
theorem op_ok (hf:sE f fr) (hr:r≠.none) (hA:Ci rf A) (hs:fB m st) (hP:∀ v m' bA,fB m' bA->k v m'=r->P (v,bA)) (o:wT) (h:(mO o).run rf f m k=r):(step o fr st).wp A P:=by
 have ev:=yX hf
 have BB:=Qk hf
 have tJ:=afA hf
 cases o with
 |mv x=>
  replace h:vK (fun v=>k v m) ((dB x).run f)=r:=h
  rw [Lb,ev] at h
  exact hP _ _ _ hs h
 |Ue x=>
  replace h:vK (fun v=>k v m) ((dB x).run f)=r:=h
  rw [Lb,ev] at h
  exact hP _ _ _ hs h
 |pick c a d=>
  replace h:vB .none (fun b=>aT b (vK (fun v=>k v m) ((dB a).run f)) (vK (fun v=>k v m) ((dB d).run f))) ((dB c).run f)=r:=h
  simp only [Lb,ev] at h
  obtain ⟨b,hv,h⟩:=Pa h hr
  simp only [step,hv]
  cases b
  · exact Ad rfl (hP _ _ _ hs h)
  · exact BD rfl (hP _ _ _ hs h)
 |alloc g z=>
  replace h:m.push g (.cs z) (fun key st=>k (.p key 0) st)=r:=h
  obtain ⟨m',h,lB⟩:=push_ok hs h
  exact hP _ _ _ lB h
 |box g x=>
  replace h:vC .none (fun cs=>asks (O6 g cs) fun c=>m.push g (.cs c) fun key st=>k (.p key 0) st) ((dB x).run f)=r:=h
  rw [ev] at h
  obtain ⟨h1,h⟩:=IU h hr
  obtain ⟨c,h2,h⟩:=bO h hr
  rw [Qh] at h2
  obtain ⟨m',h,lB⟩:=push_ok hs h
  simp only [step,h1,h2,T.opt]
  exact hP _ _ _ lB h
 |Uf z ps=>
  obtain ⟨cs,h1,h⟩:=DF hf hr _ _ _ h
  simp only [step,h1,T.opt]
  exact hP _ _ _ hs h
 |Ug md sz len z ps=>
  obtain ⟨es,h1,h⟩:=DG hf hr _ _ _ _ h
  rw [CI] at h1
  simp only [step,h1,T.opt]
  exact newSl_ok hr hs h hP
 |load n a=>
  replace h:vP .none (fun key off=>csC m key fun c=>asks (Qc c off n) fun v=>k v m) (fun key sz ix off=>yS m key sz fun es=>asks (iS es ix) fun e=>asks (Qc e off n) fun v=>k v m) (fun cs off=>asks (Qc cs off n) fun v=>k v m) ((dB a).run f)=r:=h
  simp only [ev,IQ,fD] at h
  replace h:=IT h hr;rcases h with ⟨key,off,hv,h⟩|⟨key,sz,ix,off,hv,h⟩|⟨cs,off,hv,h⟩
  · obtain ⟨c,h1,h⟩:=Qj hs h hr
    obtain ⟨v,h2,h⟩:=bO h hr
    simp only [step,hv]
    refine ⟨_,h1,?_⟩
    simp only [h2,T.opt]
    exact hP _ _ _ hs h
  · obtain ⟨es,h1,h⟩:=lZ hs h hr
    obtain ⟨e,h2,h⟩:=bO h hr
    obtain ⟨v,h3,h⟩:=bO h hr
    simp only [step,hv]
    refine ⟨_,h1,?_⟩
    dsimp only
    rw [if_pos rfl]
    refine ⟨_,h2,?_⟩
    simp only [h3,T.opt]
    exact hP _ _ _ hs h
  · obtain ⟨v,h2,h⟩:=bO h hr
    simp only [step,hv,h2,T.opt]
    exact hP _ _ _ hs h
 |store n a x=>
  replace h:vC .none (fun cs=>bG (Nat.beq (cK cs) n) (vP .none (fun key off=>asks (O6 (Cg key) cs) fun vs=>csC m key fun c=>bG (Gk c off n) (spell (sS c off vs) fun c=>m.set key (.cs c) fun st=>k (.bC []) st))
   (fun key sz ix off=>asks (O6 (Cg key) cs) fun vs=>yS m key sz fun es=>asks (iS es ix) fun e=>bG (Gk e off n) (spell (sS e off vs) fun e=>spell (Rv es ix e) fun es=>m.set key (.arr sz es) fun st=>k (.bC []) st)) (fun _ _=>.none) ((dB a).run f))) ((dB x).run f)=r:=h
  simp only [ev,Qh,wF,fD,eO,IP,IN] at h
  obtain ⟨h1,h⟩:=IU h hr
  obtain ⟨h2,h⟩:=aR h hr
  rw [bT,eN,decide_eq_true_eq] at h2
  simp only [step,if_pos (And.intro h1 h2)]
  have hl:∀ {g:Bool} {l vs:List V},rH g l=some vs->vs.length=l.length:=by
   intro g l vs hg
   cases g with
   |false=>cases hg;rfl
   |true=>
    induction l generalizing vs with
    |nil=>cases hg;rfl
    |cons a q ih=>
     simp only [rH,eM] at hg ih
     cases hp:a.pass with
     |none=>rw [hp] at hg;cases hg
     |some y=>
      cases hq:eM q with
      |none=>rw [hp,hq] at hg;cases hg
      |some z=>rw [hp,hq] at hg;cases hg;simp [ih hq]
  replace h:=IT h hr;rcases h with ⟨key,off,hv,h⟩|⟨key,sz,ix,off,hv,h⟩|⟨cs,off,hv,h⟩
  · obtain ⟨vs,h3,h⟩:=bO h hr
    obtain ⟨c,h4,h⟩:=Qj hs h hr
    obtain ⟨h5,h⟩:=aR h hr
    rw [<-h2,<-hl h3,Lf] at h5
    obtain ⟨m',h,lB⟩:=set_ok hs h4 h
    simp only [hv,h3,T.opt]
    refine ⟨_,h4,?_⟩
    simp only [h5]
    exact hP _ _ _ lB h
  · obtain ⟨vs,h3,h⟩:=bO h hr
    obtain ⟨es,h4,h⟩:=lZ hs h hr
    obtain ⟨e,h5,h⟩:=bO h hr
    obtain ⟨h6,h⟩:=aR h hr
    rw [<-h2,<-hl h3,Lf] at h6
    obtain ⟨m',h,lB⟩:=set_ok hs h4 h
    simp only [hv,h3,T.opt]
    refine ⟨_,h4,?_⟩
    dsimp only
    rw [if_pos rfl]
    refine ⟨_,h5,?_⟩
    simp only [h6]
    exact hP _ _ _ lB h
  · exact absurd h.symm hr
 |zW x=>
  replace h:vQ .none (fun a o=>k (.p a o) m) (fun a z i o=>k (.pa a z i o) m) (fun c o=>k (.pc c o) m) (fun f a c=>k (.fn f a c) m) ((dB x).run f)=r:=h
  rw [ev] at h
  replace h:=ajL h hr;rcases h with ⟨_,_,hv,h⟩|⟨_,_,_,_,hv,h⟩|⟨_,_,hv,h⟩|⟨_,_,_,hv,h⟩
  all_goals simp only [step,hv];exact hP _ _ _ hs h
 |bin op x y=>
  replace h:vIS .none (fun kd a=>fU .none (fun AX c=>(ajG op).run kd AX a c fun v=>k v m) ((dB y).run f)) (fun a=>mB .none (fun c=>(ajH op).run a c fun v=>k v m) ((dB y).run f)) ((dB x).run f)=r:=h
  simp only [ev] at h
  replace h:=ae6 h hr;rcases h with ⟨kd,a,hv,h⟩|⟨a,hv,h⟩
  · obtain ⟨AX,c,hw,h⟩:=q9 h hr
    simp only [step,hv,hw]
    exact iBin_ok hr h fun v hk=>hP _ _ _ hs hk
  · obtain ⟨c,hw,h⟩:=Bj h hr
    simp only [step,hv,hw]
    exact sBin_ok hr h fun v hk=>hP _ _ _ hs hk
 |eqc row ks neg x y=>
  replace h:VC row ((dB x).run f) (fun cs=>VC row ((dB y).run f) fun ds=>asks (AA ks cs ds) fun r=>k (.b (aT neg (jF r) r)) m)=r:=h
  simp only [ev,BN] at h
  obtain ⟨cs,h1,h⟩:=Qi h hr
  obtain ⟨ds,h2,h⟩:=Qi h hr
  obtain ⟨b,h3,h⟩:=bO h hr
  simp only [step,h1,h2,h3,T.opt]
  cases neg
  · exact hP _ _ _ hs h
  · exact hP _ _ _ hs (by rw [<-h];show k (.b (!b)) m=k (.b (jF b)) m;rw [fQ])
 |eqn neg x y=>
  replace h:ae0 neg ((dB x).run f) ((dB y).run f) (fun v=>k v m)=r:=h
  simp only [ev] at h
  exact nil2_ok hr h fun v hk=>hP _ _ _ hs hk
 |un op x=>
  cases op with
  |neg=>
   replace h:fU .none (fun kd n=>iK kd (kd.wrap (0 - n)) fun v=>k v m) ((dB x).run f)=r:=h
   simp only [ev,rY] at h
   obtain ⟨kd,n,hv,h⟩:=q9 h hr
   simp only [step,hv]
   exact sF (hP _ _ _ hs h)
  |not=>
   replace h:vB .none (fun b=>k (.b (jF b)) m) ((dB x).run f)=r:=h
   simp only [ev,fQ] at h
   obtain ⟨b,hv,h⟩:=Pa h hr
   simp only [step,hv]
   exact hP _ _ _ hs h
  |xor=>exact absurd h.symm hr
  |plus=>exact absurd h.symm hr
 |cvi kd x=>
  replace h:fU .none (fun _ n=>iK kd (wr kd n) fun v=>k v m) ((dB x).run f)=r:=h
  simp only [ev,rY,La] at h
  obtain ⟨j,n,hv,h⟩:=q9 h hr
  simp only [step,hv]
  exact sF (hP _ _ _ hs h)
 |cvs x=>
  replace h:mB .none (fun y=>k (.s y) m) ((dB x).run f)=r:=h
  simp only [ev] at h
  obtain ⟨y,hv,h⟩:=Bj h hr
  simp only [step,hv]
  exact hP _ _ _ hs h
 |Uh md x=>
  replace h:mB .none (fun y=>Dy md 1 (VA y) m k) ((dB x).run f)=r:=h
  simp only [ev,IS] at h
  obtain ⟨y,hv,h⟩:=Bj h hr
  simp only [step,hv]
  exact newSl_ok hr hs h hP
 |mkb x=>
  replace h:vL .none (fun _=>.none) .none (fun t sz es=>asks t fun key=>aeY m key (k (.sl (some key) sz es) m)) (fun key sz off len=>asks (m.look key) fun o=>Gi (fun _=>.none) (fun z _=>bG (Nat.beq z 1) (k (.ms key sz off len) m)) .none (fun _ _=>.none) o) ((dB x).run f)=r:=h
  simp only [ev] at h
  replace h:=pN h hr;rcases h with ⟨y,hv,h⟩|⟨hv,h⟩|⟨t,z,es,hv,h⟩|⟨key,z,off,len,hv,h⟩
  · exact absurd h.symm hr
  · exact absurd h.symm hr
  · obtain ⟨key,rfl,h⟩:=bO h hr
    obtain ⟨h1,h⟩:=Lg hs h hr
    simp only [step,hv]
    exact ⟨_,h1,hP _ _ _ hs h⟩
  · obtain ⟨o,h1,h⟩:=bO h hr
    have h1:=look_ok hs h1
    cases o with
    |arr z2 es=>
     obtain ⟨h2,h⟩:=aR h hr
     rw [eN,decide_eq_true_eq] at h2
     simp only [step,hv]
     refine ⟨_,h1,?_⟩
     dsimp only
     rw [if_pos h2]
     exact hP _ _ _ hs h
    |_=>exact absurd h.symm hr
 |PN x=>
  replace h:yT 1 m ((dB x).run f) (fun es=>asks (Bc es) fun y=>k (.s y) m)=r:=h
  simp only [ev,Bi] at h
  show (fP 1 st (x.ev fr) fun es=>.Kk (bytesOf es) fun y=>.ret (.s y,st)).wp A P
  refine elems2_ok hr hs h fun es h=>?_
  obtain ⟨y,h1,h⟩:=bO h hr
  exact ⟨_,h1,hP _ _ _ hs h⟩
 |Ew g cap=>
  replace h:(aeZ cap).run f (fun c=>k (.fn g [] c) m)=r:=h
  rw [Ql hf] at h
  exact hP _ _ _ hs h
 |BA g kd=>
  replace h:m.push g (.mp kd []) (fun key st=>k (.m key) st)=r:=h
  obtain ⟨m',h,lB⟩:=push_ok hs h
  exact hP _ _ _ lB h
 |Kl md sz bytes z l c=>
  replace h:fU .none (fun _ a=>fU .none (fun _ d=>Az a fun n=>Az d fun n'=>bG (Nat.beq n n') (bG (Dz n bytes) (Dy md sz (O5 n z) m k))) ((dB c).run f)) ((dB l).run f)=r:=h
  simp only [ev,CI,AB,eN] at h
  obtain ⟨_,a,hv,h⟩:=q9 h hr
  obtain ⟨_,d,hw,h⟩:=q9 h hr
  obtain ⟨n,ha,h⟩:=pM h hr
  obtain ⟨n',hd,h⟩:=pM h hr
  obtain ⟨h1,h⟩:=aR h hr
  rw [decide_eq_true_eq] at h1
  rw [<-h1] at hd
  rw [ha] at hv
  rw [hd] at hw
  obtain ⟨h2,h⟩:=aR h hr
  simp only [step,hv,hw]
  refine ⟨by simp [h2],?_⟩
  rw [Int.toNat_natCast]
  exact newSl_ok hr hs h hP
 |xQ x lo hi=>
  replace h:mB .none (fun y=>Ch ((pI hi).run f) (cK y) fun h=>Ch ((pI lo).run f) 0 fun l=>bG (Nat.ble l h) (bG (Nat.ble h (cK y)) (k (.s (lW (pH y h) l)) m))) ((dB x).run f)=r:=h
  simp only [ev,tJ,bT,cL,lY,pK] at h
  obtain ⟨y,hv,h⟩:=Bj h hr
  obtain ⟨hh,e1,h⟩:=iU hr h
  obtain ⟨l,e2,h⟩:=iU hr h
  obtain ⟨h1,h⟩:=aR h hr
  obtain ⟨h2,h⟩:=aR h hr
  rw [decide_eq_true_eq] at h1 h2
  have e2:dW (bH.tJ fr lo) 0=some (l:Int):=e2
  simp only [step,hv,e1,e2,T.opt]
  refine ⟨by simp;omega,?_⟩
  simp only [Int.toNat_natCast]
  exact hP _ _ _ hs h
 |tK sz x lo hi mx=>
  cases mx with
  |some mo=>
   replace h:vL .none (fun _=>.none) .none (fun _ _ _=>.none) (fun key z off len=>bG (Nat.beq z sz) (Ch ((pI hi).run f) len fun h=>Ch ((pI lo).run f) 0 fun l=>yS m key sz fun es=>Ch (some ((dB mo).run f)) 0 fun mx=>bG (Nat.ble l h) (bG (Nat.ble h mx) (bG (Nat.ble (Nat.add off mx) (cK es)) (k .bL m))))) ((dB x).run f)=r:=h
   simp only [ev,tJ,bT,cL,eN] at h
   replace h:=pN h hr;rcases h with ⟨y,hv,h⟩|⟨hv,h⟩|⟨t,z,es,hv,h⟩|⟨key,z,off,len,hv,h⟩
   · exact absurd h.symm hr
   · exact absurd h.symm hr
   · exact absurd h.symm hr
   · obtain ⟨h1,h⟩:=aR h hr
     rw [decide_eq_true_eq] at h1
     subst h1
     obtain ⟨hh,e1,h⟩:=iU hr h
     obtain ⟨l,e2,h⟩:=iU hr h
     obtain ⟨es,h2,h⟩:=lZ hs h hr
     obtain ⟨mx,e3,h⟩:=iU hr h
     obtain ⟨h3,h⟩:=aR h hr
     obtain ⟨h4,h⟩:=aR h hr
     obtain ⟨h5,h⟩:=aR h hr
     rw [decide_eq_true_eq] at h3 h4 h5
     have e2:dW (bH.tJ fr lo) 0=some (l:Int):=e2
     have e3:tL (mo.ev fr)=some (mx:Int):=e3
     simp only [step,hv,if_true,e1,e2,T.opt]
     refine ⟨_,h2,?_⟩
     dsimp only
     rw [if_pos rfl]
     have h5:off+mx<=es.length:=h5
     simp only [e3]
     exact ⟨by simp;omega,hP _ _ _ hs h⟩
  |none=>
   replace h:vL .none (fun _=>.none) (Ch ((pI hi).run f) 0 fun h=>Ch ((pI lo).run f) 0 fun l=>bG (Nat.beq l 0) (bG (Nat.beq h 0) (k .aB m)))
    (fun t z es=>bG (Nat.beq z sz) (bM hi (Ch ((pI lo).run f) 0 fun l=>bG (Nat.ble l (cK es)) (k (.sl t sz (lW es l)) m)) fun _=>Ch ((pI hi).run f) 0 fun h=>Ch ((pI lo).run f) 0 fun l=>bG (Nat.ble l h) (bG (Nat.ble h (cK es)) (k (.sl none sz (lW (pH es h) l)) m))))
    (fun key z off len=>bG (Nat.beq z sz) (Ch ((pI hi).run f) len fun h=>Ch ((pI lo).run f) 0 fun l=>yS m key sz fun es=>bG (Nat.ble l h) (bG (Nat.ble (Nat.add off h) (cK es)) (k (.ms key sz (Nat.add off l) (Nat.sub h l)) m)))) ((dB x).run f)=r:=h
   simp only [ev,tJ,bT,cL,eN,lY,pK] at h
   replace h:=pN h hr;rcases h with ⟨y,hv,h⟩|⟨hv,h⟩|⟨t,z,es,hv,h⟩|⟨key,z,off,len,hv,h⟩
   · exact absurd h.symm hr
   · obtain ⟨hh,e1,h⟩:=iU hr h
     obtain ⟨l,e2,h⟩:=iU hr h
     obtain ⟨h1,h⟩:=aR h hr
     obtain ⟨h2,h⟩:=aR h hr
     rw [decide_eq_true_eq] at h1 h2
     have e1:dW (bH.tJ fr hi) 0=some (hh:Int):=e1
     have e2:dW (bH.tJ fr lo) 0=some (l:Int):=e2
     simp only [step,hv,e1,e2,T.opt]
     exact ⟨by simp;omega,hP _ _ _ hs h⟩
   · obtain ⟨h1,h⟩:=aR h hr
     rw [decide_eq_true_eq] at h1
     subst h1
     cases hi with
     |none=>
      rw [ajQ] at h
      obtain ⟨l,e2,h⟩:=iU hr h
      obtain ⟨h2,h⟩:=aR h hr
      rw [decide_eq_true_eq] at h2
      have e2:dW (bH.tJ fr lo) 0=some (l:Int):=e2
      simp only [step,hv,if_true,aoZ,e2,T.opt]
      refine ⟨by simp;omega,?_⟩
      simp only [Int.toNat_natCast]
      exact hP _ _ _ hs h
     |some w=>
      rw [ajR,ahY] at h
      obtain ⟨hh,e1,h⟩:=iU hr h
      obtain ⟨l,e2,h⟩:=iU hr h
      obtain ⟨h2,h⟩:=aR h hr
      obtain ⟨h3,h⟩:=aR h hr
      rw [decide_eq_true_eq] at h2 h3
      have e2:dW (bH.tJ fr lo) 0=some (l:Int):=e2
      have e1:tL (w.ev fr)=some (hh:Int):=e1
      simp only [step,hv,if_true,ahY,e1,e2,T.opt]
      refine ⟨by simp;omega,?_⟩
      simp only [Int.toNat_natCast]
      exact hP _ _ _ hs h
   · obtain ⟨h1,h⟩:=aR h hr
     rw [decide_eq_true_eq] at h1
     subst h1
     obtain ⟨hh,e1,h⟩:=iU hr h
     obtain ⟨l,e2,h⟩:=iU hr h
     obtain ⟨es,h2,h⟩:=lZ hs h hr
     obtain ⟨h3,h⟩:=aR h hr
     obtain ⟨h4,h⟩:=aR h hr
     rw [decide_eq_true_eq] at h3
     rw [decide_eq_true_eq] at h4
     have e2:dW (bH.tJ fr lo) 0=some (l:Int):=e2
     simp only [step,hv,if_true,e1,e2,T.opt]
     refine ⟨_,h2,?_⟩
     dsimp only
     rw [if_pos rfl]
     have h4:off+hh<=es.length:=h4
     refine ⟨by simp;omega,?_⟩
     simp only [Int.toNat_natCast]
     exact hP _ _ _ hs h
 |oW off x=>
  replace h:vP .none (fun a o=>k (.p a (Nat.add o off)) m) (fun a z i o=>k (.pa a z i (Nat.add o off)) m) (fun c o=>k (.pc c (Nat.add o off)) m) ((dB x).run f)=r:=h
  rw [ev] at h
  replace h:=IT h hr;rcases h with ⟨_,_,hv,h⟩|⟨_,_,_,_,hv,h⟩|⟨_,_,hv,h⟩
  all_goals simp only [step,hv];exact hP _ _ _ hs h
 |QW off n x=>
  replace h:vA .none (fun cs=>asks (Qc cs off n) fun v=>k v m) ((dB x).run f)=r:=h
  simp only [ev,IQ] at h
  obtain ⟨cs,hv,h⟩:=VP h hr
  obtain ⟨v,h1,h⟩:=bO h hr
  simp only [step,hv,h1,T.opt]
  exact hP _ _ _ hs h
 |Ey sz x i=>
  replace h:fU .none (fun _ n=>Az n fun n=>vL .none (fun _=>.none) .none (fun _ z es=>bG (Nat.beq z sz) (asks (iS es n) fun e=>k (.pc e 0) m)) (fun a z off len=>bG (Nat.beq z sz) (bG (Nat.ble (Nat.succ n) len) (k (.pa a sz (Nat.add off n) 0) m))) ((dB x).run f)) ((dB i).run f)=r:=h
  simp only [ev,fD,eN,cL] at h
  obtain ⟨_,n,hv,h⟩:=q9 h hr
  obtain ⟨n,rfl,h⟩:=pM h hr
  replace h:=pN h hr;rcases h with ⟨y,hw,h⟩|⟨hw,h⟩|⟨t,z,es,hw,h⟩|⟨key,z,off,len,hw,h⟩
  · exact absurd h.symm hr
  · exact absurd h.symm hr
  · obtain ⟨h1,h⟩:=aR h hr
    rw [decide_eq_true_eq] at h1
    obtain ⟨e,h2,h⟩:=bO h hr
    have hl:n<es.length:=by
     rcases Nat.lt_or_ge n es.length with h3|h3
     · exact h3
     · rw [List.getElem?_eq_none h3] at h2;cases h2
    simp only [step,hv,hw,if_pos h1]
    exact ⟨by simp only [qI];simp;omega,_,by rw [Int.toNat_natCast];exact h2,hP _ _ _ hs h⟩
  · obtain ⟨h1,h⟩:=aR h hr
    rw [decide_eq_true_eq] at h1
    obtain ⟨h2,h⟩:=aR h hr
    rw [decide_eq_true_eq] at h2
    simp only [step,hv,hw,if_pos h1]
    refine ⟨by simp only [qI];simp;omega,?_⟩
    rw [Int.toNat_natCast]
    exact hP _ _ _ hs h
 |Ez len sz x i=>
  replace h:fU .none (fun _ n=>Az n fun n=>bG (Nat.ble (Nat.succ n) len) (vP .none (fun a o=>k (.p a (Nat.add o (Nat.mul n sz))) m) (fun a z j o=>k (.pa a z j (Nat.add o (Nat.mul n sz))) m) (fun c o=>k (.pc c (Nat.add o (Nat.mul n sz))) m) ((dB x).run f))) ((dB i).run f)=r:=h
  simp only [ev,cL] at h
  obtain ⟨_,n,hv,h⟩:=q9 h hr
  obtain ⟨n,rfl,h⟩:=pM h hr
  obtain ⟨h1,h⟩:=aR h hr
  rw [decide_eq_true_eq] at h1
  simp only [step,hv]
  refine ⟨by simp only [qI];simp;omega,?_⟩
  replace h:=IT h hr;rcases h with ⟨_,_,hw,h⟩|⟨_,_,_,_,hw,h⟩|⟨_,_,hw,h⟩
  all_goals simp only [hw,Int.toNat_natCast];exact hP _ _ _ hs h
 |ixs x i=>
  replace h:mB .none (fun y=>fU .none (fun _ n=>Az n fun n=>asks (iS y n) fun c=>k (.i .u8 (.ofNat (Cf c))) m) ((dB i).run f)) ((dB x).run f)=r:=h
  simp only [ev,fD] at h
  obtain ⟨y,hv,h⟩:=Bj h hr
  obtain ⟨_,n,hw,h⟩:=q9 h hr
  obtain ⟨n,rfl,h⟩:=pM h hr
  obtain ⟨c,h1,h⟩:=bO h hr
  simp only [step,hv,hw]
  exact ⟨by simp,_,by rw [Int.toNat_natCast];exact h1,hP _ _ _ hs h⟩
 |T0 len sz n x i=>
  replace h:vA .none (fun cs=>fU .none (fun _ j=>Az j fun j=>bG (Nat.ble (Nat.succ j) len) (asks (Qc cs (Nat.mul j sz) n) fun v=>k v m)) ((dB i).run f)) ((dB x).run f)=r:=h
  simp only [ev,IQ,cL] at h
  obtain ⟨cs,hv,h⟩:=VP h hr
  obtain ⟨_,j,hw,h⟩:=q9 h hr
  obtain ⟨j,rfl,h⟩:=pM h hr
  obtain ⟨h1,h⟩:=aR h hr
  rw [decide_eq_true_eq] at h1
  obtain ⟨v,h2,h⟩:=bO h hr
  simp only [step,hv,hw]
  refine ⟨by simp only [qI];simp;omega,?_⟩
  have h2:dF cs (j*sz) n=some v:=h2
  simp only [Int.toNat_natCast,h2,T.opt]
  exact hP _ _ _ hs h
 |Ui kd z mm key ok=>
  replace h:bG (yV kd ((dB key).run f)) (vM .none (k (aT ok (.bC [z,.b false]) z) m) (fun a=>mpC m a kd fun es=>bM (IF ((dB key).run f) es) (k (aT ok (.bC [z,.b false]) z) m) fun v=>aT ok (k (.bC [v,.b true]) m) (k v m)) ((dB mm).run f))=r:=h
  simp only [ev,Bh,Gm] at h
  obtain ⟨h1,h⟩:=aR h hr
  replace h:=DE h hr;rcases h with ⟨hv,h⟩|⟨a,hv,h⟩
  · simp only [step,h1,hv]
    cases ok
    · exact CR rfl (hP _ _ _ hs h)
    · exact CR rfl (hP _ _ _ hs h)
  · obtain ⟨es,h2,h⟩:=IW hs h hr
    simp only [step,h1,hv]
    refine ⟨_,h2,?_⟩
    dsimp only
    rw [if_pos rfl]
    cases hq:zY es (key.ev fr) with
    |none=>
     rw [hq] at h
     cases ok
     · exact CR rfl (hP _ _ _ hs h)
     · exact CR rfl (hP _ _ _ hs h)
    |some v=>
     rw [hq] at h
     cases ok
     · exact OB rfl (hP _ _ _ hs h)
     · exact OB rfl (hP _ _ _ hs h)
 |EA kd mm key v=>
  replace h:bG (yV kd ((dB key).run f)) (vM .none .none (fun a=>mpC m a kd fun es=>vK (fun v=>asks (aT (Cg a) (uI v) (some v)) fun u=>spell (Qd ((dB key).run f) u es) fun es=>m.set a (.mp kd es) fun st=>k (.bC []) st) ((dB v).run f)) ((dB mm).run f))=r:=h
  simp only [ev,Bh,Lc,Lb,eO,wF,AD] at h
  obtain ⟨h1,h⟩:=aR h hr
  replace h:=DE h hr;rcases h with ⟨hv,h⟩|⟨a,hv,h⟩
  · exact absurd h.symm hr
  · obtain ⟨es,h2,h⟩:=IW hs h hr
    obtain ⟨u,h3,h⟩:=bO h hr
    obtain ⟨m',h,lB⟩:=set_ok hs h2 h
    simp only [step,h1,hv]
    refine ⟨_,h2,?_⟩
    dsimp only
    rw [if_pos rfl]
    have h4:Km a.rD (v.ev fr)=some u:=by rw [<-h3];unfold Km;cases a.rD<;>rfl
    simp only [h4,T.opt]
    exact hP _ _ _ lB h
 |ext x i=>
  replace h:vT .none (fun vs=>asks (iS vs i) fun v=>k v m) ((dB x).run f)=r:=h
  simp only [ev,fD] at h
  obtain ⟨vs,hv,h⟩:=ajM h hr
  obtain ⟨v,h1,h⟩:=bO h hr
  simp only [step,hv,h1,T.opt]
  exact hP _ _ _ hs h
 |call g args=>
  replace h:asks (j2 ((K6 args).run f)) (fun vs=>K7 rf g vs m k)=r:=h
  simp only [BB,pL] at h
  obtain ⟨vs,h1,h⟩:=bO h hr
  simp only [step,h1,T.opt]
  exact callK_ok hr hs hA h hP
 |xS g args=>
  replace h:vF .none (fun g first cap=>asks (j2 (wX first (wX ((K6 args).run f) cap))) fun vs=>K7 rf g vs m k) ((dB g).run f)=r:=h
  simp only [ev,BB,pL,qQ] at h
  obtain ⟨g',first,cap,hv,h⟩:=ajN h hr
  obtain ⟨vs,h1,h⟩:=bO h hr
  rw [<-List.append_assoc] at h1
  simp only [step,hv,h1,T.opt]
  exact callK_ok hr hs hA h hP
 |EB x=>
  replace h:mB .none (fun y=>k (.i .i64 (.ofNat (cK y))) m) ((dB x).run f)=r:=h
  simp only [ev,bT] at h
  obtain ⟨y,hv,h⟩:=Bj h hr
  simp only [step,hv]
  exact hP _ _ _ hs h
 |EC x=>
  replace h:vL .none (fun _=>.none) (k (.i .i64 0) m) (fun _ _ es=>k (.i .i64 (.ofNat (cK es))) m) (fun _ _ _ n=>k (.i .i64 (.ofNat n)) m) ((dB x).run f)=r:=h
  simp only [ev,bT] at h
  replace h:=pN h hr;rcases h with ⟨y,hv,h⟩|⟨hv,h⟩|⟨t,z,es,hv,h⟩|⟨key,z,off,len,hv,h⟩
  · exact absurd h.symm hr
  all_goals simp only [step,hv];exact hP _ _ _ hs h
 |ED n=>exact hP _ _ _ hs h
 |EE x=>
  replace h:vM .none (k (.i .i64 0) m) (fun a=>asks (m.look a) fun o=>Gi (fun _=>.none) (fun _ _=>.none) .none (fun _ es=>k (.i .i64 (.ofNat (cK es))) m) o) ((dB x).run f)=r:=h
  simp only [ev,bT] at h
  replace h:=DE h hr;rcases h with ⟨hv,h⟩|⟨a,hv,h⟩
  · simp only [step,hv]
    exact hP _ _ _ hs h
  · obtain ⟨o,h1,h⟩:=bO h hr
    have h1:=look_ok hs h1
    cases o with
    |mp z es=>
     simp only [step,hv]
     exact ⟨_,h1,hP _ _ _ hs h⟩
    |_=>exact absurd h.symm hr
 |zX max xs=>
  replace h:List.rec (motive:=fun _=>Rz) .none (fun v r _=>asks (mm2 max r v) fun v=>k v m) ((K6 xs).run f)=r:=h
  simp only [BB] at h
  cases hq:bH.BB fr xs with
  |nil=>rw [hq] at h;exact absurd h.symm hr
  |cons v q=>
   rw [hq] at h
   obtain ⟨w,h1,h⟩:=bO (k:=fun v=>k v m) h hr
   rw [VO] at h1
   simp only [step,hq,h1,T.opt]
   exact hP _ _ _ hs h
 |append md sz bytes s x=>
  replace h:yT sz m ((dB x).run f) (fun new=>IE md sz bytes m ((dB s).run f) new k)=r:=h
  simp only [ev] at h
  exact elems2_ok hr hs h fun es h=>append2_ok hr hs h hP
 |copy sz d x=>
  replace h:yT sz m ((dB x).run f) (fun src=>vL .none (fun _=>.none) .none (fun _ _ _=>.none) (fun key z off len=>bG (Nat.beq z sz) (asks (Dx (Cg key) (pH src len)) fun ds=>yS m key sz fun es=>bG (Nat.ble (Nat.add off len) (cK es)) (ET (wX (pH es off) ds) (lW es (Nat.add off (cK ds))) fun es=>m.set key (.arr sz es) fun st=>k (.i .i64 (.ofNat (cK ds))) st))) ((dB d).run f))=r:=h
  simp only [ev,eN,cL,bT,Bf,wF,pK,lY,qQ,wD] at h
  show (fP sz st (x.ev fr) fun src=>match d.ev fr with
   |.ms k eD off len=>if eD=sz then .gL (eU k.rD (src.take len)) fun ds=>.obj (st.get k) fun o=>match o with
     |.arr eP es=>if eP=sz then
       .mL (decide (off+len<=es.length))<|.ret (.i .i64 (ds.length:Nat),st.set k (.arr sz (es.take off++ds++es.drop (off+ds.length))))
      else .fail
     |_=>.fail
    else .fail
   |_=>.fail).wp A P
  refine elems2_ok hr hs h fun src h=>?_
  replace h:=pN h hr;rcases h with ⟨y,hv,h⟩|⟨hv,h⟩|⟨t,z,es,hv,h⟩|⟨key,z,off,len,hv,h⟩
  · exact absurd h.symm hr
  · exact absurd h.symm hr
  · exact absurd h.symm hr
  · obtain ⟨h1,h⟩:=aR h hr
    rw [decide_eq_true_eq] at h1
    obtain ⟨ds,h2,h⟩:=bO h hr
    obtain ⟨es,h3,h⟩:=lZ hs h hr
    obtain ⟨h4,h⟩:=aR h hr
    obtain ⟨m',h,lB⟩:=set_ok hs h3 h
    simp only [hv,if_pos h1]
    refine ⟨_,h2,_,h3,?_⟩
    dsimp only
    rw [if_pos rfl]
    exact ⟨h4,hP _ _ _ lB h⟩
 |delete kd mm key=>
  replace h:bG (yV kd ((dB key).run f)) (vM .none (k (.bC []) m) (fun a=>mpC m a kd fun es=>spell (Qe ((dB key).run f) es) fun es=>m.set a (.mp kd es) fun st=>k (.bC []) st) ((dB mm).run f))=r:=h
  simp only [ev,Bh,Ld,eO] at h
  obtain ⟨h1,h⟩:=aR h hr
  replace h:=DE h hr;rcases h with ⟨hv,h⟩|⟨a,hv,h⟩
  · simp only [step,h1,hv]
    exact hP _ _ _ hs h
  · obtain ⟨es,h2,h⟩:=IW hs h hr
    obtain ⟨m',h,lB⟩:=set_ok hs h2 h
    simp only [step,h1,hv]
    refine ⟨_,h2,?_⟩
    dsimp only
    rw [if_pos rfl]
    exact hP _ _ _ lB h
 |clear sz z x=>
  replace h:vL .none (fun _=>.none) (k (.bC []) m) (fun _ _ _=>.none) (fun key zz off len=>bG (Nat.beq zz sz) (yS m key sz fun es=>bG (Nat.ble (Nat.add off len) (cK es)) (ET (wX (pH es off) (O5 len z)) (lW es (Nat.add off len)) fun es=>m.set key (.arr sz es) fun st=>k (.bC []) st))) ((dB x).run f)=r:=h
  simp only [ev,eN,cL,bT,pK,lY,qQ,wD,CI] at h
  replace h:=pN h hr;rcases h with ⟨y,hv,h⟩|⟨hv,h⟩|⟨t,zz,es,hv,h⟩|⟨key,zz,off,len,hv,h⟩
  · exact absurd h.symm hr
  · simp only [step,hv]
    exact hP _ _ _ hs h
  · exact absurd h.symm hr
  · obtain ⟨h1,h⟩:=aR h hr
    rw [decide_eq_true_eq] at h1
    obtain ⟨es,h3,h⟩:=lZ hs h hr
    obtain ⟨h4,h⟩:=aR h hr
    obtain ⟨m',h,lB⟩:=set_ok hs h3 h
    simp only [step,hv,if_pos h1]
    refine ⟨_,h3,?_⟩
    dsimp only
    rw [if_pos rfl]
    exact ⟨h4,hP _ _ _ lB h⟩
 |no=>exact absurd h.symm hr
end
open Go
theorem wI {a b:Key} (h:Bd a b=true):a=b:=by
 cases a<;>cases b<;>first
  |cases h
  |(rename_i n m;have:=Nat.eq_of_beq_eq_true (show Nat.beq n m=true from h);rw [this])
theorem ajS {v u:V} (h:vEq v u=true):v=u:=by
 cases v with
 |b x=>cases u<;>first|cases h|(rename_i y;cases x<;>cases y<;>first|rfl|cases h)
 |i k n=>
  cases u<;>first
   |cases h
   |(rename_i j m
     replace h:aT (qZ k j) (Rw n m) false=true:=h
     rw [b9,g9,uK] at h
     split at h
     · rename_i h1;rw [of_decide_eq_true h1,of_decide_eq_true h]
     · cases h)
 |s a=>cases u<;>first|cases h|(rename_i b;replace h:ID a b=true:=h;rw [q8] at h;rw [eq_of_beq h])
 |p a o=>
  cases u<;>first
   |cases h
   |(rename_i b j
     replace h:aT (Bd a b) (Nat.beq o j) false=true:=h
     rw [b9] at h
     split at h
     · rename_i h1;rw [wI h1,Nat.eq_of_beq_eq_true h]
     · cases h)
 |_=>exact V.beq_eq h
section
variable {A:bK}
theorem sE.put {f:Fc} {fr:Fr} (hf:sE f fr) {r:Rz} (hr:r≠.none) {dst:Option Nat} {kill:List Nat} {v:V} {k:Fc->Rz} (h:(mC dst kill).run v f k=r):kill=[]/\∃ f',sE f' (fr.next dst v kill)/\k f'=r:=by
 cases kill with
 |cons x q=>exact absurd h.symm hr
 |nil=>
  refine ⟨rfl,?_⟩
  cases dst with
  |none=>exact ⟨f,hf,h⟩
  |some d=>
   obtain ⟨f',h1,h2⟩:=IL (n:=d) h hr
   refine ⟨f',fun n=>?_,h1⟩
   rw [h2 n]
   simp only [Fr.next,Fr.get]
   by_cases hd:n=d
   · rw [if_pos hd,if_pos hd.symm]
   · rw [if_neg hd,if_neg (Ne.symm hd)];exact hf n
theorem sE.same {f:Fc} {fr:Fr} (hf:sE f fr) {t:Nat} {v:V} (hv:fr.get t=v):sE f ((t,v)::fr.jZ [t]):=by
 intro n
 rw [hf n]
 simp only [Fr.get]
 by_cases h:t=n
 · rw [if_pos h,<-h];exact hv
 · rw [if_neg h,Fr.eC,if_neg (by rw [bU];simpa using Ne.symm h)]
def afB (r:Rz) (x:Fr×St):Prop:=∃ f' m',r=.p8 f' m'/\sE f' x.1/\fB m' x.2
section
variable {rf:Rf} (hA:Ci rf A) {r:Rz} (hr:r≠.none)
include hA hr
theorem KO {α:Type} {Q:α->Prop} {op:wT} {dst:Option Nat} {kill:List Nat} {rest:Fr->St->T α} {k:SM->Fc->Rz} (hk:∀ (f':Fc) (m':SM) (bV:Fr) (bA:St),sE f' bV->fB m' bA->k m' f'=r->(rest bV bA).wp A Q)
 {f:Fc} {m:SM} {fr:Fr} {st:St} (hf:sE f fr) (hs:fB m st) (h:(mO op).run rf f m (fun v st=>(mC dst kill).run v f fun fr=>k st fr)=r):
 ((step op fr st).bind fun x=>match x with|(v,st)=>fr.after dst v kill fun fr=>rest fr st).wp A Q:=by
 rw [T.wp_bind]
 refine op_ok hf hr hA hs (fun v m' bA lB h=>?_) op h
 obtain ⟨rfl,f',Qn,h⟩:=hf.put hr h
 dsimp only
 rw [Fr.bW]
 exact hk _ _ _ _ Qn lB h
omit hA in
theorem Qo {α:Type} {Q:α->Prop} {dst:Option Nat} {kill:List Nat} {rest:Fr->St->T α} {k:SM->Fc->Rz} (hk:∀ (f':Fc) (m':SM) (bV:Fr) (bA:St),sE f' bV->fB m' bA->k m' f'=r->(rest bV bA).wp A Q)
 {f:Fc} {m:SM} {fr:Fr} {st:St} (hf:sE f fr) (hs:fB m st) {v:V} (h:(mC dst kill).run v f (fun fr=>k m fr)=r):
 (fr.after dst v kill fun fr=>rest fr st).wp A Q:=by
 obtain ⟨rfl,f',Qn,h⟩:=hf.put hr h
 rw [Fr.bW]
 exact hk _ _ _ _ Qn hs h
theorem cOps_ok {P:Fr×St->Prop} (hP:∀ x,afB r x->P x):∀ (ops:List cG) (f:Fc) (m:SM) (fr:Fr) (st:St),sE f fr->fB m st->(uJ ops).run rf f m=r->(dM ops fr st).wp A P
 |[],f,m,fr,st,hf,hs,h=>hP _ ⟨f,m,h.symm,hf,hs⟩
 |o::rest,f,m,fr,st,hf,hs,h=>by
  have ih:=cOps_ok hP rest
  have hk:∀ (f':Fc) (m':SM) (bV:Fr) (bA:St),sE f' bV->fB m' bA->(uJ rest).run rf f' m'=r->(dM rest bV bA).wp A P:=fun f' m' bV bA a b c=>ih f' m' bV bA a b c
  simp only [dM]
  replace h:(bM o.guard ⟨fun rf fr st=>(mO o.op).run rf fr st fun v st=>(mC o.dst o.kill).run v fr fun fr=>(uJ rest).run rf fr st⟩ fun g=>⟨fun rf fr st=>(DA (some g)).run fr ((mO o.op).run rf fr st fun v st=>(mC o.dst o.kill).run v fr fun fr=>(uJ rest).run rf fr st) ((mC o.dst o.kill).run (.bC []) fr fun fr=>(uJ rest).run rf fr st)⟩:Rg).run rf f m=r:=h
  cases hg:o.guard with
  |none=>
   rw [hg] at h
   exact KO hA hr (k:=fun m f=>(uJ rest).run rf f m) hk hf hs h
  |some q=>
   obtain ⟨t,want⟩:=q
   rw [hg] at h
   replace h:vG .none (fun x=>aT (aT want x (jF x)) ((mO o.op).run rf f m fun v st=>(mC o.dst o.kill).run v f fun fr=>(uJ rest).run rf fr st) ((mC o.dst o.kill).run (.bC []) f fun fr=>(uJ rest).run rf fr m)) (fun _=>(mC o.dst o.kill).run (.bC []) f fun fr=>(uJ rest).run rf fr m) ((jE t).run f)=r:=h
   rw [hf t] at h
   replace h:=Pb h hr;rcases h with ⟨x,hx,h⟩|⟨cs,hx,h⟩
   · have uB:=hf.same hx
     simp only [hx]
     cases want<;>cases x
     · refine Ad rfl ?_
       rw [Fr.b8]
       exact KO hA hr (k:=fun m f=>(uJ rest).run rf f m) hk uB hs h
     · refine BD rfl ?_
       rw [Fr.b8]
       exact Qo hr (k:=fun m f=>(uJ rest).run rf f m) hk uB hs h
     · refine Ad rfl ?_
       rw [Fr.b8]
       exact Qo hr (k:=fun m f=>(uJ rest).run rf f m) hk uB hs h
     · refine BD rfl ?_
       rw [Fr.b8]
       exact KO hA hr (k:=fun m f=>(uJ rest).run rf f m) hk uB hs h
   · simp only [hx]
     exact Qo hr (k:=fun m f=>(uJ rest).run rf f m) hk hf hs h
omit hA hr in
theorem Li (n:Nat):∀ ks,Qb n ks=bZ n ks
 |[]=>rfl
 |k::q=>by
  show aT (Nat.beq n k) true (Qb n q)=_
  rw [Li n q,b9]
  simp only [bZ]
  cases Nat.beq n k<;>rfl
theorem reC_ok {α:Type} {Q:α->Prop} (re:List Nat) {f:Fc} {m:SM} {fr:Fr} {st:St} (hf:sE f fr) (hs:fB m st) {y:Rz} {t:T α} (hy:y=r->t.wp A Q):∀ done:List aO,(II re done).run rf f m y=r->(recheck re done fr st t).wp A Q
 |[],h=>hy h
 |p::ps,h=>by
  have ih:=reC_ok re hf hs hy ps
  replace h:(aT (Qb p.ix re) ⟨fun rf fr st k=>(DA p.o.guard).run fr ((mO p.o.op).run rf fr st fun v _=>bM p.o.dst ((II re ps).run rf fr st k) fun d=>bG (vEq ((jE d).run fr) v) ((II re ps).run rf fr st k)) ((II re ps).run rf fr st k)⟩ (II re ps):iE (Rf->Fc->SM->Rz->Rz)).run rf f m y=r:=h
  rw [Li] at h
  simp only [recheck]
  cases hm:bZ p.ix re with
  |false=>rw [hm] at h;exact ih h
  |true=>
   rw [hm] at h
   have go:(mO p.o.op).run rf f m (fun v _=>bM p.o.dst ((II re ps).run rf f m y) fun d=>bG (vEq ((jE d).run f) v) ((II re ps).run rf f m y))=r->((step p.o.op fr st).bind fun x=>match p.o.dst with
    |some d=>.same (fr.get d) x.1 (recheck re ps fr st t)
    |none=>recheck re ps fr st t).wp A Q:=by
    intro h
    rw [T.wp_bind]
    refine op_ok hf hr hA hs (fun v m' bA _ h=>?_) _ h
    cases hd:p.o.dst with
    |none=>rw [hd] at h;exact ih h
    |some d=>
     rw [hd] at h
     obtain ⟨h1,h⟩:=aR h hr
     rw [hf d] at h1
     exact ⟨ajS h1,ih h⟩
   replace h:(DA p.o.guard).run f ((mO p.o.op).run rf f m fun v _=>bM p.o.dst ((II re ps).run rf f m y) fun d=>bG (vEq ((jE d).run f) v) ((II re ps).run rf f m y)) ((II re ps).run rf f m y)=r:=h
   cases hg:p.o.guard with
   |none=>
    rw [hg] at h
    exact go h
   |some q=>
    obtain ⟨tt,want⟩:=q
    rw [hg] at h
    replace h:vG .none (fun x=>aT (aT want x (jF x)) ((mO p.o.op).run rf f m fun v _=>bM p.o.dst ((II re ps).run rf f m y) fun d=>bG (vEq ((jE d).run f) v) ((II re ps).run rf f m y)) ((II re ps).run rf f m y)) (fun _=>(II re ps).run rf f m y) ((jE tt).run f)=r:=h
    rw [hf tt] at h
    replace h:=Pb h hr;rcases h with ⟨x,hx,h⟩|⟨cs,hx,h⟩
    · simp only [cI,hx]
      cases want<;>cases x
      · exact go h
      · exact ih h
      · exact ih h
      · exact go h
    · simp only [cI,hx]
      exact ih h
theorem cDr_ok {P:Fr×St->Prop} (hP:∀ x,afB r x->P x) (kill:List Nat):∀ (ds done:List aO) (f:Fc) (m:SM) (fr:Fr) (st:St),sE f fr->fB m st->(VD kill ds done).run rf f m=r->(gD done ds fr st).wp A fun x=>(Av kill x).wp A P
 |[],done,f,m,fr,st,hf,hs,h=>by
  cases kill with
  |cons x q=>exact absurd h.symm hr
  |nil=>
   show (Av [] (fr,st)).wp A P
   simp only [Av]
   rw [Fr.b8]
   exact hP _ ⟨f,m,h.symm,fun n=>by rw [Fr.eC];exact hf n,hs⟩
 |d::rest,done,f,m,fr,st,hf,hs,h=>by
  have ih:=cDr_ok hP kill rest
  simp only [gD]
  replace h:(DA d.o.guard).run f ((mO d.o.op).run rf f m fun v st=>(mC d.o.dst []).run v f fun fr=>(II d.re done).run rf fr st ((VD kill rest (d::done)).run rf fr st)) ((mC d.o.dst []).run (.bC []) f fun fr=>(VD kill rest (d::done)).run rf fr m)=r:=h
  have yes:∀ iW,sE f iW->((mO d.o.op).run rf f m fun v st=>(mC d.o.dst []).run v f fun fr=>(II d.re done).run rf fr st ((VD kill rest (d::done)).run rf fr st))=r->
   ((step d.o.op iW st).bind fun x=>match x with
     |(v,st)=>iW.after d.o.dst v [] fun fr=>recheck d.re done fr st (gD (d::done) rest fr st)).wp A fun x=>(Av kill x).wp A P:=by
   intro iW uB h
   exact KO hA hr (rest:=fun fr st=>recheck d.re done fr st (gD (d::done) rest fr st)) (k:=fun m f=>(II d.re done).run rf f m ((VD kill rest (d::done)).run rf f m))
    (fun f' m' bV bA a b c=>reC_ok hA hr d.re a b (fun c=>ih (d::done) f' m' bV bA a b c) done c) uB hs h
  have no:∀ iW,sE f iW->((mC d.o.dst []).run (.bC []) f fun fr=>(VD kill rest (d::done)).run rf fr m)=r->(iW.after d.o.dst (.bC []) [] fun fr=>gD (d::done) rest fr st).wp A fun x=>(Av kill x).wp A P:=by
   intro iW uB h
   exact Qo hr (rest:=fun fr st=>gD (d::done) rest fr st) (k:=fun m f=>(VD kill rest (d::done)).run rf f m) (fun f' m' bV bA a b c=>ih (d::done) f' m' bV bA a b c) uB hs h
  unfold rJ
  cases hg:d.o.guard with
  |none=>rw [hg] at h;exact yes fr hf h
  |some q=>
   obtain ⟨t,want⟩:=q
   rw [hg] at h
   replace h:vG .none (fun x=>aT (aT want x (jF x)) ((mO d.o.op).run rf f m fun v st=>(mC d.o.dst []).run v f fun fr=>(II d.re done).run rf fr st ((VD kill rest (d::done)).run rf fr st)) ((mC d.o.dst []).run (.bC []) f fun fr=>(VD kill rest (d::done)).run rf fr m)) (fun _=>(mC d.o.dst []).run (.bC []) f fun fr=>(VD kill rest (d::done)).run rf fr m) ((jE t).run f)=r:=h
   rw [hf t] at h
   dsimp only
   replace h:=Pb h hr;rcases h with ⟨x,hx,h⟩|⟨cs,hx,h⟩
   · have uB:=hf.same hx
     simp only [hx]
     cases want<;>cases x
     · refine Ad rfl ?_
       rw [Fr.b8]
       exact yes _ uB h
     · refine BD rfl ?_
       rw [Fr.b8]
       exact no _ uB h
     · refine Ad rfl ?_
       rw [Fr.b8]
       exact no _ uB h
     · refine BD rfl ?_
       rw [Fr.b8]
       exact yes _ uB h
   · simp only [hx]
     exact no _ hf h
end
def RzK:Rz->Ex->Fr->St->Prop
 |.none,_,_,_=>False
 |.p8 f m,e,fr,st=>e=.normal/\sE f fr/\fB m st
 |.exit id f m,e,fr,st=>e=.exit id/\sE f fr/\fB m st
 |.ret f m,e,fr,st=>e=.ret/\sE f fr/\fB m st
def IY (gc:iE (Fc->SM->(SM->Rz)->Rz)):Prop:=∀ (f:Fc) (m:SM) (K:SM->Rz) (r:Rz),gc.run f m K=r->r≠.none->∃ m',K m'=r/\∀ st,fB m st->fB m' st
theorem noGc_ok:IY eJ:=fun _ m _ _ h _=>⟨m,h,fun _ h=>h⟩
theorem Pc (gc:iE (Fc->SM->(SM->Rz)->Rz)) (b:Rg) (rf:Rf) (f:Fc) (m:SM):BM gc b rf 0 f m=.none:=by unfold BM;rfl
theorem Pd (gc:iE (Fc->SM->(SM->Rz)->Rz)) (b:Rg) (rf:Rf) (n:Nat) (f:Fc) (m:SM):BM gc b rf (n+1) f m=gc.run f m fun st=>jB (b.run rf f st) (BM gc b rf n):=by unfold BM;rfl
theorem Pe (gc:iE (Fc->SM->(SM->Rz)->Rz)) (b:AC) (rf:Rf) (f:Fc) (m:SM):(bX gc (.loop b)).run rf f m=BM gc (bX gc b) rf K8 f m:=rfl
theorem code2_ok {gc:iE (Fc->SM->(SM->Rz)->Rz)} (Cj:IY gc) {rf:Rf} (hA:Ci rf A):∀ (c:AC) (f:Fc) (m:SM) (fr:Fr) (st:St) (r:Rz) (Q:Ex->Fr->St->Prop),(bX gc c).run rf f m=r->r≠.none->sE f fr->fB m st->(∀ e fr st,RzK r e fr st->Q e fr st)->rX A c Q fr st
 |.skip,f,m,fr,st,r,Q,h,hr,hf,hs,hQ=>by subst h;exact hQ _ _ _ ⟨rfl,hf,hs⟩
 |.EF ops,f,m,fr,st,r,Q,h,hr,hf,hs,hQ=>by
  have VQ:∀ x,afB r x->pE Q x:=fun ⟨bV,bA⟩ ⟨f',m',e1,e2,e3⟩=>by subst e1;exact hQ _ _ _ ⟨rfl,e2,e3⟩
  exact cOps_ok hA hr VQ ops f m fr st hf hs h
 |.BZ ds kill,f,m,fr,st,r,Q,h,hr,hf,hs,hQ=>by
  have VQ:∀ x,afB r x->pE Q x:=fun ⟨bV,bA⟩ ⟨f',m',e1,e2,e3⟩=>by subst e1;exact hQ _ _ _ ⟨rfl,e2,e3⟩
  simp only [rX]
  rw [T.wp_bind]
  exact cDr_ok hA hr VQ kill ds [] f m fr st hf hs h
 |.seq a b,f,m,fr,st,r,Q,h,hr,hf,hs,hQ=>by
  replace h:jB ((bX gc a).run rf f m) (fun fr st=>(bX gc b).run rf fr st)=r:=h
  cases ha:(bX gc a).run rf f m with
  |none=>rw [ha] at h;exact absurd h.symm hr
  |p8 f1 m1=>
   rw [ha] at h
   refine code2_ok Cj hA a f m fr st _ _ ha (fun e=>by cases e) hf hs fun e bV bA hk=>?_
   obtain ⟨rfl,Qn,lB⟩:=hk
   exact code2_ok Cj hA b f1 m1 bV bA r Q h hr Qn lB hQ
  |exit id f1 m1=>
   rw [ha] at h
   subst h
   refine code2_ok Cj hA a f m fr st _ _ ha (fun e=>by cases e) hf hs fun e bV bA hk=>?_
   have:=hQ _ _ _ hk
   obtain ⟨rfl,_⟩:=hk
   exact this
  |ret f1 m1=>
   rw [ha] at h
   subst h
   refine code2_ok Cj hA a f m fr st _ _ ha (fun e=>by cases e) hf hs fun e bV bA hk=>?_
   have:=hQ _ _ _ hk
   obtain ⟨rfl,_⟩:=hk
   exact this
 |.cond d a b,f,m,fr,st,r,Q,h,hr,hf,hs,hQ=>by
  replace h:vB .none (fun x=>aT x ((bX gc a).run rf f m) ((bX gc b).run rf f m)) ((dB d).run f)=r:=h
  rw [yX hf] at h
  obtain ⟨x,hx,h⟩:=Pa h hr
  simp only [rX,hx]
  cases x
  · exact Ad rfl (code2_ok Cj hA b f m fr st r Q h hr hf hs hQ)
  · exact BD rfl (code2_ok Cj hA a f m fr st r Q h hr hf hs hQ)
 |.bI id b,f,m,fr,st,r,Q,h,hr,hf,hs,hQ=>by
  replace h:Rz.rec (motive:=fun _=>Rz) .none .p8 (fun ER fr st=>aT (Nat.beq ER id) (.p8 fr st) (.exit ER fr st)) .ret ((bX gc b).run rf f m)=r:=h
  cases hb:(bX gc b).run rf f m with
  |none=>rw [hb] at h;exact absurd h.symm hr
  |p8 f1 m1=>
   rw [hb] at h
   subst h
   refine code2_ok Cj hA b f m fr st _ _ hb (fun e=>by cases e) hf hs fun e bV bA hk=>?_
   have:=hQ _ _ _ hk
   obtain ⟨rfl,_⟩:=hk
   exact this
  |exit ER f1 m1=>
   rw [hb] at h
   replace h:aT (Nat.beq ER id) (.p8 f1 m1) (.exit ER f1 m1)=r:=h
   refine code2_ok Cj hA b f m fr st _ _ hb (fun e=>by cases e) hf hs fun e bV bA hk=>?_
   obtain ⟨rfl,Qn,lB⟩:=hk
   rw [b9,eN] at h
   simp only [jD]
   by_cases Gf:ER=id
   · rw [if_pos (by simpa using Gf)] at h
     rw [if_pos Gf]
     subst h
     exact hQ _ _ _ ⟨rfl,Qn,lB⟩
   · rw [if_neg (by simpa using Gf)] at h
     rw [if_neg Gf]
     subst h
     exact hQ _ _ _ ⟨rfl,Qn,lB⟩
  |ret f1 m1=>
   rw [hb] at h
   subst h
   refine code2_ok Cj hA b f m fr st _ _ hb (fun e=>by cases e) hf hs fun e bV bA hk=>?_
   have:=hQ _ _ _ hk
   obtain ⟨rfl,_⟩:=hk
   exact this
 |.loop b,f,m,fr,st,r,Q,h,hr,hf,hs,hQ=>by
  have ihb:=code2_ok Cj hA b
  have key:∀ (n:Nat) (f:Fc) (m:SM) (fr:Fr) (st:St),BM gc (bX gc b) rf n f m=r->sE f fr->fB m st->rX A (.loop b) Q fr st:=by
   intro n
   induction n with
   |zero=>intro f m fr st h hf hs;rw [Pc] at h;exact absurd h.symm hr
   |succ n ih=>
    intro f m fr st h hf hs
    rw [Pd] at h
    obtain ⟨m0,h,hm0⟩:=Cj _ _ _ _ h hr
    have hs:=hm0 st hs
    intro R hR
    cases hb:(bX gc b).run rf f m0 with
    |none=>rw [hb] at h;exact absurd h.symm hr
    |p8 f1 m1=>
     rw [hb] at h
     refine hR _ _ _ (Fr.le_refl _) (ihb f m0 fr st _ _ hb (fun e=>by cases e) hf hs fun e bV bA hk=>?_)
     obtain ⟨rfl,Qn,lB⟩:=hk
     exact ih f1 m1 bV bA h Qn lB R hR
    |exit id f1 m1=>
     rw [hb] at h
     replace h:Rz.exit id f1 m1=r:=h
     subst h
     refine hR _ _ _ (Fr.le_refl _) (ihb f m0 fr st _ _ hb (fun e=>by cases e) hf hs fun e bV bA hk=>?_)
     have:=hQ _ _ _ hk
     obtain ⟨rfl,_⟩:=hk
     exact this
    |ret f1 m1=>
     rw [hb] at h
     replace h:Rz.ret f1 m1=r:=h
     subst h
     refine hR _ _ _ (Fr.le_refl _) (ihb f m0 fr st _ _ hb (fun e=>by cases e) hf hs fun e bV bA hk=>?_)
     have:=hQ _ _ _ hk
     obtain ⟨rfl,_⟩:=hk
     exact this
  rw [Pe] at h
  exact key K8 f m fr st h hf hs
 |.exit id,f,m,fr,st,r,Q,h,hr,hf,hs,hQ=>by subst h;exact hQ _ _ _ ⟨rfl,hf,hs⟩
 |.ret,f,m,fr,st,r,Q,h,hr,hf,hs,hQ=>by subst h;exact hQ _ _ _ ⟨rfl,hf,hs⟩
 |.no,f,m,fr,st,r,Q,h,hr,hf,hs,hQ=>absurd h.symm hr
end
open Go
theorem pf2_ok {r:Rz} (hr:r≠.none):∀ (args:List V) (n:Nat) (f:Fc) (k:Fc->Rz),pf2 args n f k=r->∃ f',k f'=r/\∀ t,(jE t).run f'=if n<=t/\t - n<args.length then args.getD (t - n) .bL else (jE t).run f
 |[],n,f,k,h=>⟨f,h,fun t=>by rw [if_neg (by simp)]⟩
 |v::q,n,f,k,h=>by
  replace h:(O4 n Rz.none).run f v (fun f=>pf2 q (n+1) f k)=r:=h
  obtain ⟨f1,h,h1⟩:=IL h hr
  obtain ⟨f2,h,h2⟩:=pf2_ok hr q (n+1) f1 k h
  refine ⟨f2,h,fun t=>?_⟩
  rw [h2 t,h1 t]
  by_cases ht:t=n
  · subst ht
    rw [if_neg (by omega),if_pos rfl,if_pos ⟨Nat.le_refl _,by simp⟩]
    simp
  · rw [if_neg ht]
    by_cases hl:n+1<=t/\t - (n+1)<q.length
    · rw [if_pos hl,if_pos ⟨by omega,by simp;omega⟩,show t - n=(t - (n+1))+1 by omega]
      simp
    · rw [if_neg hl,if_neg (fun hh=>hl (by have:=hh.2;simp at this;omega))]
theorem wJ {r:Rz} (hr:r≠.none) {args:List V} {k:Fc->Rz} (h:pf2 args 0 Qa k=r):∃ f',k f'=r/\sE f' (dN 0 args):=by
 obtain ⟨f',h,h1⟩:=pf2_ok hr args 0 Qa k h
 refine ⟨f',h,fun t=>?_⟩
 rw [h1 t,j1,if_pos (Nat.zero_le _),Qf,Nat.sub_zero]
 split
 · rfl
 · rename_i hl
   rw [List.getD_eq_getElem?_getD,List.getElem?_eq_none (by omega)];rfl
theorem wK {α β:Type} {o:Option α} {k:α->Option β} {x:β} (h:bM o none k=some x):∃ y,o=some y/\k y=some x:=by
 cases o with
 |none=>cases h
 |some y=>exact ⟨y,rfl,h⟩
section
variable {f:Fc} {fr:Fr} {m:SM} {st:St} (hf:sE f fr) (hs:fB m st)
include hf hs
theorem res1_ok {rv:RV} {v:V} (h:(ajI rv).run f m=some v):Ie fr st rv=some v:=by
 cases rv with
 |t n=>
  replace h:uI ((jE n).run f)=some v:=h
  rw [AD,hf n] at h
  exact h
 |cell n sz=>
  replace h:vP none (fun key off=>bM (m.look key) none fun o=>Gi (fun c=>bM (Qc c off sz) none uI) (fun _ _=>none) none (fun _ _=>none) o) (fun _ _ _ _=>none) (fun _ _=>none) ((jE n).run f)=some v:=h
  rw [hf n] at h
  simp only [Ie]
  cases hq:fr.get n with
  |p key off=>
   rw [hq] at h
   obtain ⟨o,h1,h⟩:=wK (k:=fun o=>Gi (fun c=>bM (Qc c off sz) none uI) (fun _ _=>none) none (fun _ _=>none) o) h
   have h1:=look_ok hs h1
   cases o with
   |cs c=>
    obtain ⟨u,h2,h⟩:=wK (k:=uI) h
    rw [IQ] at h2
    rw [AD] at h
    simp only [h1,h2,h]
   |_=>cases h
  |_=>rw [hq] at h;cases h
theorem ress_ok:∀ {rs:List RV} {vs:List V},(VE rs).run f m=some vs->mP fr st rs=some vs
 |[],vs,h=>h
 |r::q,vs,h=>by
  obtain ⟨v,h1,h⟩:=wK (o:=(ajI r).run f m) (k:=fun v=>bM ((VE q).run f m) none fun vs=>some (v::vs)) h
  obtain ⟨us,h2,h⟩:=wK h
  cases h
  simp only [mP,res1_ok hf hs h1,ress_ok h2]
theorem endC_ok {rs:List RV} {v:V} {m':Mem} (h:(DB rs).run f m=.some v m'):xT fr st rs=some v/\j6 m' st.g:=by
 obtain ⟨gn,g,ln,l⟩:=m
 replace h:bM ((VE rs).run f (.mk gn g ln l)) Cz.none (fun vs=>Cz.some (ajJ vs) (.mk gn g))=.some v m':=h
 cases hq:(VE rs).run f (.mk gn g ln l) with
 |none=>rw [hq] at h;cases h
 |some vs=>
  rw [hq] at h
  replace h:Cz.some (ajJ vs) (.mk gn g)=.some v m':=h
  cases h
  refine ⟨?_,hs.1,hs.2.2.1⟩
  simp only [xT,ress_ok hf hs hq]
  match vs with
  |[]=>rfl
  |[x]=>rfl
  |x::y::q=>rfl
end
section
variable {P:Program}
theorem noL_ok {n:Nat} {t:TH} {h:aC} (hm:j6 (.mk n t) h):fB (.mk n t 0 .nil) (gH h):=⟨hm.1,rfl,hm.2,fun _ _ e=>by cases e⟩
theorem cFn_ok {gc:iE (Fc->SM->(SM->Rz)->Rz)} (Cj:IY gc) {rf:Rf} (hA:Ci rf (aE P)) {f:Nat} {F:aF} (hk:iY P f F=true) {args:List V} {m:Mem} {v:V} {m':Mem} (h:(cFn gc F).run rf args m=.some v m')
 {hh:aC} (hm:j6 m hh) {K:V->aC->Prop} (hK:∀ h',j6 m' h'->K v h'):aE P f args hh K:=by
 obtain ⟨n,t⟩:=m
 replace h:aT (Nat.beq (cK args) F.nparams) (Rz.rec (motive:=fun _=>Cz) .none (fun fr st=>(DB F.results).run fr st) (fun _ _ _=>.none) (fun fr st=>(DB F.results).run fr st) (pf2 args 0 Qa fun f=>(bX gc F.body).run rf f (.mk n t 0 .nil))) Cz.none=.some v m':=h
 rw [b9,eN,bT] at h
 split at h
 case isFalse=>cases h
 rename_i hn
 have hn:args.length=F.nparams:=by simpa using hn
 refine fn_ok hk hn ?_
 cases hq:pf2 args 0 Qa fun f=>(bX gc F.body).run rf f (.mk n t 0 .nil) with
 |none=>rw [hq] at h;cases h
 |exit id f1 m1=>rw [hq] at h;cases h
 |p8 f1 m1=>
  rw [hq] at h
  obtain ⟨f',hc,Qn⟩:=wJ (by intro e;cases e) hq
  refine code2_ok Cj hA F.body f' _ _ _ _ _ hc (by intro e;cases e) Qn (noL_ok hm) fun e fr st hk=>?_
  obtain ⟨rfl,h1,h2⟩:=hk
  obtain ⟨h3,h4⟩:=endC_ok h1 h2 h
  simp only [mT,h3]
  exact hK _ h4
 |ret f1 m1=>
  rw [hq] at h
  obtain ⟨f',hc,Qn⟩:=wJ (by intro e;cases e) hq
  refine code2_ok Cj hA F.body f' _ _ _ _ _ hc (by intro e;cases e) Qn (noL_ok hm) fun e fr st hk=>?_
  obtain ⟨rfl,h1,h2⟩:=hk
  obtain ⟨h3,h4⟩:=endC_ok h1 h2 h
  simp only [mT,h3]
  exact hK _ h4
def T9 (P:Program) (VF:Nat->Option (iE (Rf->List V->Mem->Cz))):Prop:=∀ f c,VF f=some c->∀ rf,Ci rf (aE P)->∀ args m v m',c.run rf args m=.some v m'->∀ h,j6 m h->∀ K:V->aC->Prop,(∀ h',j6 m' h'->K v h')->aE P f args h K
theorem rfN_ok {fns:Nat->Option aF} {VF:Nat->Option (iE (Rf->List V->Mem->Cz))} {gc:Nat->iE (Fc->SM->(SM->Rz)->Rz)} (hf:BL P fns) (ho:T9 P VF) (hg:∀ f,IY (gc f)):∀ n,Ci (rfN fns VF gc n) (aE P)
 |0=>fun _ _ _ _ _ h=>by cases h
 |n+1=>fun f vs m v m' h hh hm K hK=>by
  have ih:=rfN_ok hf ho hg n
  replace h:(bM (VF f) (bM (fns f) ⟨fun _ _ _=>.none⟩ fun F=>cFn (gc f) F) fun c=>c).run (rfN fns VF gc n) vs m=.some v m':=h
  cases hq:VF f with
  |some c=>
   rw [hq] at h
   exact ho f c hq _ ih _ _ _ _ h hh hm K hK
  |none=>
   rw [hq] at h
   cases hF:fns f with
   |none=>rw [hF] at h;cases h
   |some F=>
    rw [hF] at h
    exact cFn_ok (hg f) ih (hf f F hF) h hm hK
end
open Go
noncomputable def VR (k:Key) (acc:List Nat):List Nat:=pF k (fun n=>n::acc) fun _=>acc
noncomputable def VS (v:V):List Nat->List Nat:=V.rec (motive_1:=fun _=>List Nat->List Nat) (motive_2:=fun _=>List Nat->List Nat) (motive_3:=fun _=>Unit)
 (fun _ a=>a) (fun _ _ a=>a) (fun _ a=>a) (fun a=>a) (fun k _=>VR k) (fun k _ _ _=>VR k) (fun _ _ ih=>ih) (fun a=>a) (fun t _ _ _ a=>bM t a fun k=>VR k a) (fun k _ _ _=>VR k) (fun a=>a) (fun k=>VR k) (fun _ _ _ i j a=>i (j a)) (fun a=>a) (fun _ ih=>ih) (fun _ ih=>ih) (fun a=>a)
 (fun a=>a) (fun _ _ i j a=>i (j a)) () (fun _ _ _ _=>()) v
noncomputable def ahZ (l:List V) (acc:List Nat):List Nat:=List.rec (motive:=fun _=>List Nat) acc (fun v _ ih=>VS v ih) l
noncomputable def Qp (o:Obj) (acc:List Nat):List Nat:=Gi (fun c=>ahZ c acc) (fun _ es=>List.rec (motive:=fun _=>List Nat) acc (fun e _ ih=>ahZ e ih) es) acc (fun _ es=>List.rec (motive:=fun _=>List Nat) acc (fun q _ ih=>VS q.2 ih) es) o
noncomputable def ah0 (t:TH):List Nat->List Nat:=TH.rec (motive:=fun _=>List Nat->List Nat) (fun a=>a) (fun _ o a=>Qp o a) (fun _ _ _ _ a b c d l=>a (b (c (d l)))) t
noncomputable def ah1 (f:Fc) (ns:List Nat) (acc:List Nat):List Nat:=List.rec (motive:=fun _=>List Nat) acc (fun n _ ih=>VS ((jE n).run f) ih) ns
noncomputable def mark (fuel:Nat):TH->List Nat->TH->(TH->Rz)->Rz:=Nat.rec (motive:=fun _=>TH->List Nat->TH->(TH->Rz)->Rz) (fun _ _ _ _=>.none)
 (fun _ ih old work new k=>List.rec (motive:=fun _=>Rz) (k new) (fun n q _=>bM (new.get n n) (bM (old.get n n) (ih old q new k) fun o=>TH.put n o new n 1 fun new=>spell (Qp o q) fun q=>ih old q new k) fun _=>ih old q new k) work) fuel
noncomputable def gcK (ns:List Nat):iE (Fc->SM->(SM->Rz)->Rz):=⟨fun f m k=>m.cas fun gn g ln l=>spell (ah0 l (ah1 f ns [])) fun w=>mark K8 g w .nil fun t=>k (.mk gn t ln l)⟩
theorem mark_ok {r:Rz} (hr:r≠.none):∀ (fuel:Nat) (old:TH) (work:List Nat) (new:TH) (k:TH->Rz),mark fuel old work new k=r->(∀ n o,new.get n n=some o->old.get n n=some o)->∃ t,k t=r/\∀ n o,t.get n n=some o->old.get n n=some o
 |0,_,_,_,_,h,_=>absurd h.symm hr
 |f+1,old,[],new,k,h,hn=>⟨new,h,hn⟩
 |f+1,old,n::q,new,k,h,hn=>by
  replace h:bM (new.get n n) (bM (old.get n n) (mark f old q new k) fun o=>TH.put n o new n 1 fun new=>spell (Qp o q) fun q=>mark f old q new k) (fun _=>mark f old q new k)=r:=h
  cases h1:new.get n n with
  |some o=>rw [h1] at h;exact mark_ok hr f old q new k h hn
  |none=>
   rw [h1] at h
   cases h2:old.get n n with
   |none=>rw [h2] at h;exact mark_ok hr f old q new k h hn
   |some o=>
    rw [h2] at h
    replace h:TH.put n o new n 1 (fun new=>spell (Qp o q) fun q=>mark f old q new k)=r:=h
    obtain ⟨t',e1,e2⟩:=TH.put_eq n o new n 1
    rw [e1,eO] at h
    refine mark_ok hr f old _ t' k h fun x w hx=>?_
    rcases e2 _ _ _ (fun e=>e) hx with ⟨rfl,rfl⟩|⟨_,h3⟩
    · exact h2
    · exact hn _ _ h3
theorem gcK_ok (ns:List Nat):IY (gcK ns):=by
 rintro f ⟨gn,g,ln,l⟩ K r h hr
 replace h:spell (ah0 l (ah1 f ns [])) (fun w=>mark K8 g w .nil fun t=>K (.mk gn t ln l))=r:=h
 rw [eO] at h
 obtain ⟨t,h,ht⟩:=mark_ok hr _ _ _ _ _ h fun n o e=>by cases e
 exact ⟨_,h,fun st hs=>⟨hs.1,hs.2.1,fun n o e=>hs.2.2.1 n o (ht n o e),hs.2.2.2⟩⟩
open Go
structure Md where
 n:Nat
 g:List (Nat×Obj)
structure Sd where
 fr:List (Nat×V)
 ln:Nat
 m:Md
def Pf (M:Md) (h:aC):Prop:=h.next=M.n/\∀ k o,(k,o)∈M.g->h.get k=some o
def Fact (P:Program) (f:Nat) (args:List V) (M:Md) (v:V) (M':Md):Prop:=∀ h,Pf M h->∀ K:V->aC->Prop,(∀ h',Pf M' h'->K v h')->aE P f args h K
section
variable {α:Type}
noncomputable def IZ (l:List (Nat×Obj)) (t:TH) (k:TH->α):α:=List.rec (motive:=fun _=>TH->(TH->α)->α) (fun t k=>k t) (fun q _ ih t k=>TH.put q.1 q.2 t q.1 1 fun t=>ih t k) l t k
noncomputable def frK (no:α) (l:List (Nat×V)) (f:Fc) (k:Fc->α):α:=List.rec (motive:=fun _=>Fc->(Fc->α)->α) (fun f k=>k f) (fun q _ ih f k=>(O4 q.1 no).run f q.2 fun f=>ih f k) l f k
theorem memK_ok:∀ (l:List (Nat×Obj)) (t:TH),∃ t',(∀ k:TH->α,IZ l t k=k t')/\∀ n o,t'.get n n=some o->(n,o)∈l\/t.get n n=some o
 |[],t=>⟨t,fun _=>rfl,fun _ _ h=>.inr h⟩
 |(j,u)::r,t=>by
  obtain ⟨t1,a1,a2⟩:=TH.put_eq j u t j 1
  obtain ⟨t2,b1,b2⟩:=memK_ok r t1
  refine ⟨t2,fun k=>(a1 α _).trans (b1 k),fun n o h=>?_⟩
  rcases b2 n o h with h|h
  · exact .inl (.tail _ h)
  · rcases a2 n n o (fun e=>e) h with ⟨e1,e2⟩|⟨_,h⟩
    · subst e1;subst e2;exact .inl (.head _)
    · exact .inr h
end
def EU:List (Nat×V)->Fr->Fr
 |[],fr=>fr
 |q::r,fr=>EU r (q::fr)
theorem frK_ok {α:Type} {no r:α} (hr:r≠no):∀ (l:List (Nat×V)) (f:Fc) (k:Fc->α),frK no l f k=r->∃ f',k f'=r/\∀ fr,sE f fr->sE f' (EU l fr)
 |[],f,k,h=>⟨f,h,fun _ hf=>hf⟩
 |(n,v)::q,f,k,h=>by
  replace h:(O4 n no).run f v (fun f=>frK no q f k)=r:=h
  obtain ⟨f1,h,h1⟩:=IL h hr
  obtain ⟨f2,h,h2⟩:=frK_ok hr q f1 k h
  refine ⟨f2,h,fun fr hf=>h2 _ fun m=>?_⟩
  rw [h1 m]
  simp only [Fr.get]
  by_cases hm:m=n
  · rw [if_pos hm,if_pos hm.symm]
  · rw [if_neg hm,if_neg (Ne.symm hm)];exact hf m
theorem Lj {n:Nat}:∀ (l:List (Nat×V)) (fr:Fr),(∃ v,(n,v)∈l/\(EU l fr).get n=v)\/(EU l fr).get n=fr.get n
 |[],_=>.inr rfl
 |(m,u)::r,fr=>by
  rcases Lj r ((m,u)::fr) with ⟨v,h1,h2⟩|h
  · exact .inl ⟨v,.tail _ h1,h2⟩
  · by_cases hm:m=n
    · subst hm
      exact .inl ⟨u,.head _,by rw [show EU ((m,u)::r) fr=EU r ((m,u)::fr) from rfl,h];simp [Fr.get]⟩
    · refine .inr ?_
      rw [show EU ((m,u)::r) fr=EU r ((m,u)::fr) from rfl,h]
      simp only [Fr.get,if_neg hm]
noncomputable def VT (a b:Option Key):Bool:=bM a (bM b true fun _=>false) fun a=>bM b false fun b=>Bd a b
noncomputable def cC (a b:Bool):Bool:=aT a b false
noncomputable def gK (v:V):V->Bool:=V.rec (motive_1:=fun _=>V->Bool) (motive_2:=fun _=>List V->Bool) (motive_3:=fun _=>List (List V)->Bool)
 (fun x u=>vB false (fun y=>aT x y (jF y)) u)
 (fun k n u=>fU false (fun j m=>cC (qZ k j) (Rw n m)) u)
 (fun a u=>mB false (fun b=>ID a b) u)
 (fun u=>vNp false true (fun _ _=>false) (fun _ _ _ _=>false) u)
 (fun k o u=>vP false (fun k' o'=>cC (Bd k k') (Nat.beq o o')) (fun _ _ _ _=>false) (fun _ _=>false) u)
 (fun k z i o u=>vP false (fun _ _=>false) (fun k' z' i' o'=>cC (Bd k k') (cC (Nat.beq z z') (cC (Nat.beq i i') (Nat.beq o o')))) (fun _ _=>false) u)
 (fun _ o ih u=>vP false (fun _ _=>false) (fun _ _ _ _=>false) (fun B6 o'=>cC (Nat.beq o o') (ih B6)) u)
 (fun u=>vL false (fun _=>false) true (fun _ _ _=>false) (fun _ _ _ _=>false) u)
 (fun t z _ ih u=>vL false (fun _=>false) false (fun t' z' sD=>cC (VT t t') (cC (Nat.beq z z') (ih sD))) (fun _ _ _ _=>false) u)
 (fun k z o n u=>vL false (fun _=>false) false (fun _ _ _=>false) (fun k' z' o' n'=>cC (Bd k k') (cC (Nat.beq z z') (cC (Nat.beq o o') (Nat.beq n n')))) u)
 (fun u=>vM false true (fun _=>false) u)
 (fun k u=>vM false false (fun k'=>Bd k k') u)
 (fun f _ _ ia ic u=>vF false (fun g a' c'=>cC (Nat.beq f g) (cC (ia a') (ic c'))) u)
 (fun u=>vNf false true (fun _ _ _=>false) u)
 (fun _ ih u=>vA false (fun c=>ih c) u)
 (fun _ ih u=>vT false (fun c=>ih c) u)
 (fun _=>false)
 (fun l=>List.rec (motive:=fun _=>Bool) true (fun _ _ _=>false) l)
 (fun _ _ iv il l=>List.rec (motive:=fun _=>Bool) false (fun y r _=>cC (iv y) (il r)) l)
 (fun l=>List.rec (motive:=fun _=>Bool) true (fun _ _ _=>false) l)
 (fun _ _ iv il l=>List.rec (motive:=fun _=>Bool) false (fun y r _=>cC (iv y) (il r)) l) v
theorem bN {a b:Bool} (h:cC a b=true):a=true/\b=true:=by cases a<;>cases b<;>first|exact ⟨rfl,rfl⟩|cases h
theorem VU {a b:Option Key} (h:VT a b=true):a=b:=by
 cases a<;>cases b<;>first
  |rfl
  |cases h
  |(rename_i x y;rw [wI (show Bd x y=true from h)])
theorem jG {n m:Nat} (h:Nat.beq n m=true):n=m:=Nat.eq_of_beq_eq_true h
mutual
theorem lQ:∀ v u:V,gK v u=true->v=u
 |.b x,u,h=>by cases u<;>first|cases h|(rename_i y;cases x<;>cases y<;>first|rfl|cases h)
 |.i k n,u,h=>by
  cases u<;>first
   |cases h
   |(rename_i j m
     obtain ⟨h1,h2⟩:=bN (show cC (qZ k j) (Rw n m)=true from h)
     rw [g9] at h1;rw [uK] at h2
     rw [of_decide_eq_true h1,of_decide_eq_true h2])
 |.s a,u,h=>by cases u<;>first|cases h|(rename_i b;replace h:ID a b=true:=h;rw [q8] at h;rw [eq_of_beq h])
 |.fM,u,h=>by cases u<;>first|rfl|cases h
 |.p k o,u,h=>by
  cases u<;>first
   |cases h
   |(rename_i j m
     obtain ⟨h1,h2⟩:=bN (show cC (Bd k j) (Nat.beq o m)=true from h)
     rw [wI h1,jG h2])
 |.pa k z i o,u,h=>by
  cases u<;>first
   |cases h
   |(rename_i k' z' i' o'
     obtain ⟨h1,h2⟩:=bN (show cC (Bd k k') (cC (Nat.beq z z') (cC (Nat.beq i i') (Nat.beq o o')))=true from h)
     obtain ⟨h2,h3⟩:=bN h2
     obtain ⟨h3,h4⟩:=bN h3
     rw [wI h1,jG h2,jG h3,jG h4])
 |.pc cs o,u,h=>by
  cases u<;>first
   |cases h
   |(rename_i B6 o'
     obtain ⟨h1,h2⟩:=bN (show cC (Nat.beq o o') (gK (.agg cs) (.agg B6))=true from h)
     rw [jG h1,lR cs B6 h2])
 |.aB,u,h=>by cases u<;>first|rfl|cases h
 |.sl t z es,u,h=>by
  cases u<;>first
   |cases h
   |(rename_i t' z' sD
     obtain ⟨h1,h2⟩:=bN (show cC (VT t t') (cC (Nat.beq z z') (gK (.sl none 0 es) (.sl none 0 sD)))=true from h)
     obtain ⟨h2,h3⟩:=bN h2
     rw [VU h1,jG h2,DJ es sD h3])
 |.ms k z o n,u,h=>by
  cases u<;>first
   |cases h
   |(rename_i k' z' o' n'
     obtain ⟨h1,h2⟩:=bN (show cC (Bd k k') (cC (Nat.beq z z') (cC (Nat.beq o o') (Nat.beq n n')))=true from h)
     obtain ⟨h2,h3⟩:=bN h2
     obtain ⟨h3,h4⟩:=bN h3
     rw [wI h1,jG h2,jG h3,jG h4])
 |.eG,u,h=>by cases u<;>first|rfl|cases h
 |.m k,u,h=>by cases u<;>first|cases h|(rename_i j;rw [wI (show Bd k j=true from h)])
 |.fn f a c,u,h=>by
  cases u<;>first
   |cases h
   |(rename_i g a' c'
     obtain ⟨h1,h2⟩:=bN (show cC (Nat.beq f g) (cC (gK (.agg a) (.agg a')) (gK (.agg c) (.agg c')))=true from h)
     obtain ⟨h2,h3⟩:=bN h2
     rw [jG h1,lR a a' h2,lR c c' h3])
 |.fN,u,h=>by cases u<;>first|rfl|cases h
 |.agg cs,u,h=>by cases u<;>first|cases h|(rename_i ds;rw [lR cs ds h])
 |.bC cs,u,h=>by cases u<;>first|cases h|(rename_i ds;rw [lR cs ds h])
 |.bL,u,h=>by cases h
theorem lR:∀ l l':List V,gK (.agg l) (.agg l')=true->l=l'
 |[],[],_=>rfl
 |[],_::_,h=>by cases h
 |_::_,[],h=>by cases h
 |v::r,u::q,h=>by
  obtain ⟨h1,h2⟩:=bN (show cC (gK v u) (gK (.agg r) (.agg q))=true from h)
  rw [lQ v u h1,lR r q h2]
theorem DJ:∀ l l':List (List V),gK (.sl none 0 l) (.sl none 0 l')=true->l=l'
 |[],[],_=>rfl
 |[],_::_,h=>by cases h
 |_::_,[],h=>by cases h
 |v::r,u::q,h=>by
  obtain ⟨h1,h2⟩:=bN (show cC (gK (.agg v) (.agg u)) (gK (.sl none 0 r) (.sl none 0 q))=true from h)
  rw [lR v u h1,DJ r q h2]
end
noncomputable def Qq (l:List (V×V)):List (V×V)->Bool:=List.rec (motive:=fun _=>List (V×V)->Bool) (fun l=>List.rec (motive:=fun _=>Bool) true (fun _ _ _=>false) l) (fun q _ ih l=>List.rec (motive:=fun _=>Bool) false (fun p r _=>cC (gK q.1 p.1) (cC (gK q.2 p.2) (ih r))) l) l
theorem Lk:∀ l l':List (V×V),Qq l l'=true->l=l'
 |[],[],_=>rfl
 |[],_::_,h=>by cases h
 |_::_,[],h=>by cases h
 |(a,b)::r,(c,d)::q,h=>by
  obtain ⟨h1,h2⟩:=bN (show cC (gK a c) (cC (gK b d) (Qq r q))=true from h)
  obtain ⟨h2,h3⟩:=bN h2
  rw [lQ a c h1,lQ b d h2,Lk r q h3]
noncomputable def afC (o u:Obj):Bool:=Gi (fun c=>Gi (fun d=>gK (.agg c) (.agg d)) (fun _ _=>false) false (fun _ _=>false) u) (fun z es=>Gi (fun _=>false) (fun z' sD=>cC (Nat.beq z z') (gK (.sl none 0 es) (.sl none 0 sD))) false (fun _ _=>false) u)
 (Gi (fun _=>false) (fun _ _=>false) true (fun _ _=>false) u) (fun kd es=>Gi (fun _=>false) (fun _ _=>false) false (fun AX sD=>cC (VB kd AX) (Qq es sD)) u) o
theorem ao0 {a b:Option IntKind} (h:VB a b=true):a=b:=by
 cases a<;>cases b<;>first
  |rfl
  |cases h
  |(rename_i x y;replace h:qZ x y=true:=h;rw [g9] at h;rw [of_decide_eq_true h])
theorem afD {o u:Obj} (h:afC o u=true):o=u:=by
 cases o with
 |cs c=>cases u<;>first|cases h|(rename_i d;rw [lR c d h])
 |arr z es=>
  cases u<;>first
   |cases h
   |(rename_i z' sD
     obtain ⟨h1,h2⟩:=bN (show cC (Nat.beq z z') (gK (.sl none 0 es) (.sl none 0 sD))=true from h)
     rw [jG h1,DJ es sD h2])
 |spare=>cases u<;>first|rfl|cases h
 |mp kd es=>
  cases u<;>first
   |cases h
   |(rename_i AX sD
     obtain ⟨h1,h2⟩:=bN (show cC (VB kd AX) (Qq es sD)=true from h)
     rw [ao0 h1,Lk es sD h2])
noncomputable def ajT (t:TH) (l:List (Nat×Obj)):Bool:=List.rec (motive:=fun _=>Bool) true (fun q _ ih=>cC (bM (t.get q.1 q.1) false fun o=>afC q.2 o) ih) l
noncomputable def DK (M:Md) (n:Nat) (t:TH):Bool:=cC (Nat.beq n M.n) (ajT t M.g)
theorem covG_ok {t:TH}:∀ {l:List (Nat×Obj)},ajT t l=true->∀ k o,(k,o)∈l->t.get k k=some o
 |[],_,_,_,hm=>by cases hm
 |(j,u)::r,h,k,o,hm=>by
  obtain ⟨h1,h2⟩:=bN (show cC (bM (t.get j j) false fun o=>afC u o) (ajT t r)=true from h)
  cases hm with
  |head=>
   cases hg:t.get j j with
   |none=>rw [hg] at h1;cases h1
   |some o'=>rw [hg] at h1;rw [afD (show afC u o'=true from h1)]
  |tail _ hm=>exact covG_ok h2 k o hm
theorem covM_ok {M:Md} {n:Nat} {t:TH} (h:DK M n t=true) {hh:aC} (hm:j6 (.mk n t) hh):Pf M hh:=by
 obtain ⟨h1,h2⟩:=bN h
 exact ⟨hm.1.trans (jG h1),fun k o hk=>hm.2 k o (covG_ok h2 k o hk)⟩
theorem DL {α:Type} (M:Md):∃ t,(∀ k:TH->α,IZ M.g .nil k=k t)/\∀ h,Pf M h->j6 (.mk M.n t) h:=by
 obtain ⟨t,e1,e2⟩:=memK_ok (α:=α) M.g .nil
 exact ⟨t,e1,fun h hm=>⟨hm.1,fun k o hk=>(e2 k o hk).elim (hm.2 k o) fun e=>by cases e⟩⟩
section
variable {P:Program}
noncomputable def sU (rf:Rf) (f:Nat) (args:List V) (M:Md) (v:V) (M':Md):Bool:=
 IZ M.g .nil fun t=>Cz.rec (motive:=fun _=>Bool) false (fun v' m'=>Mem.rec (motive:=fun _=>Bool) (fun n t'=>cC (gK v' v) (DK M' n t')) m') (rf f args (.mk M.n t))
theorem runFact_ok {rf:Rf} (hA:Ci rf (aE P)) {f:Nat} {args:List V} {M:Md} {v:V} {M':Md} (h:sU rf f args M v M'=true):Fact P f args M v M':=by
 obtain ⟨t,e1,e2⟩:=DL (α:=Bool) M
 unfold sU at h
 rw [e1] at h
 intro hh hM K hK
 cases hq:rf f args (.mk M.n t) with
 |none=>rw [hq] at h;cases h
 |some v' m'=>
  rw [hq] at h
  obtain ⟨n,t'⟩:=m'
  obtain ⟨h1,h2⟩:=bN (show cC (gK v' v) (DK M' n t')=true from h)
  refine hA f args _ v' _ hq hh (e2 hh hM) K fun h' hm'=>?_
  rw [lQ v' v h1]
  exact hK h' (covM_ok h2 hm')
def EV (P:Program) (f:Nat) (c:iE (Rf->List V->Mem->Cz)):Prop:=∀ rf,Ci rf (aE P)->∀ args m v m',c.run rf args m=.some v m'->∀ h,j6 m h->∀ K:V->aC->Prop,(∀ h',j6 m' h'->K v h')->aE P f args h K
theorem VV {f:Nat}:EV P f ⟨fun _ _ _=>.none⟩:=fun _ _ _ _ _ _ h=>by cases h
theorem ajU {gc:iE (Fc->SM->(SM->Rz)->Rz)} (Cj:IY gc) {f:Nat} {F:aF} (hk:iY P f F=true):EV P f (cFn gc F):=fun _ hA _ _ _ _ h _ hm _ hK=>cFn_ok Cj hA hk h hm hK
structure Ll where
 args:List V
 m:Md
 v:V
 m':Md
noncomputable def orF (l:List Ll) (gL:iE (Rf->List V->Mem->Cz)):iE (Rf->List V->Mem->Cz):=
 ⟨fun rf args m=>List.rec (motive:=fun _=>Cz) (gL.run rf args m) (fun q _ ih=>aT (gK (.agg args) (.agg q.args)) (aT (Mem.rec (motive:=fun _=>Bool) (fun n t=>DK q.m n t) m) (IZ q.m'.g .nil fun t=>Cz.some q.v (.mk q.m'.n t)) ih) ih) l⟩
theorem orF_ok {f:Nat} {gL:iE (Rf->List V->Mem->Cz)} (he:EV P f gL):∀ {l:List Ll},(∀ q∈l,Fact P f q.args q.m q.v q.m')->EV P f (orF l gL)
 |[],_=>fun rf hA args m v m' h=>he rf hA args m v m' h
 |q::r,hl=>by
  intro rf hA args m v m' h hh hm K hK
  have ih:=orF_ok he (l:=r) (fun x hx=>hl x (.tail _ hx)) rf hA args m v m'
  obtain ⟨n,t⟩:=m
  replace h:aT (gK (.agg args) (.agg q.args)) (aT (DK q.m n t) (IZ q.m'.g .nil fun t=>Cz.some q.v (.mk q.m'.n t)) ((orF r gL).run rf args (.mk n t))) ((orF r gL).run rf args (.mk n t))=.some v m':=h
  rw [b9,b9] at h
  split at h
  · rename_i h1
    split at h
    · rename_i h2
      obtain ⟨t',e1,_⟩:=memK_ok (α:=Cz) q.m'.g .nil
      obtain ⟨t2,e2,e3⟩:=DL (α:=Cz) q.m'
      rw [e2] at h
      cases h
      rw [lR _ _ h1]
      exact hl q (.head _) hh (covM_ok h2 hm) K fun h' hm'=>hK h' (e3 h' hm')
    · exact ih h hh hm K hK
  · exact ih h hh hm K hK
noncomputable def orM (l:List (List V×V)) (gL:iE (Rf->List V->Mem->Cz)):iE (Rf->List V->Mem->Cz):=
 ⟨fun rf args m=>List.rec (motive:=fun _=>Cz) (gL.run rf args m) (fun q _ ih=>aT (gK (.agg args) (.agg q.1)) (Cz.some q.2 m) ih) l⟩
theorem orM_ok {f:Nat} {gL:iE (Rf->List V->Mem->Cz)} (he:EV P f gL):∀ {l:List (List V×V)},(∀ q∈l,∀ (h:aC) (K:V->aC->Prop),K q.2 h->aE P f q.1 h K)->EV P f (orM l gL)
 |[],_=>fun rf hA args m v m' h=>he rf hA args m v m' h
 |q::r,hl=>by
  intro rf hA args m v m' h hh hm K hK
  have ih:=orM_ok he (l:=r) (fun x hx=>hl x (.tail _ hx)) rf hA args m v m'
  replace h:aT (gK (.agg args) (.agg q.1)) (Cz.some q.2 m) ((orM r gL).run rf args m)=.some v m':=h
  rw [b9] at h
  split at h
  · rename_i h1
    cases h
    rw [lR _ _ h1]
    exact hl q (.head _) hh K (hK _ hm)
  · exact ih h hh hm K hK
noncomputable def sV (rf:Rf) (f:Nat) (q:List V×V):Bool:=aT (q.1.all V.free&&q.2.free) (Cz.rec (motive:=fun _=>Bool) false (fun v' _=>gK v' q.2) (rf f q.1 (.mk 0 .nil))) false
theorem runPure_ok {rf:Rf} (hA:Ci rf (aE P)) {f:Nat} {q:List V×V} (h:sV rf f q=true) (hh:aC) (K:V->aC->Prop) (hK:K q.2 hh):aE P f q.1 hh K:=by
 unfold sV at h
 rw [b9] at h
 split at h
 case isFalse=>cases h
 rename_i K3
 simp only [Bool.and_eq_true] at K3
 cases hq:rf f q.1 (.mk 0 .nil) with
 |none=>rw [hq] at h;cases h
 |some v' m'=>
  rw [hq] at h
  refine aE.frame (hA f q.1 _ v' _ hq CH ⟨rfl,fun _ _ e=>by cases e⟩ (fun v _=>v=v') fun _ _=>rfl) K3.1 fun v h' hv=>?_
  subst hv
  rw [lQ _ _ (show gK v q.2=true from h)]
  exact ⟨K3.2,hK⟩
end
open Go
def ajV (M:Md) (ln:Nat) (st:St):Prop:=st.g.next=M.n/\st.l.next=ln/\∀ k o,(k,o)∈M.g->st.g.get k=some o
def At (S:Sd) (X:Fr->St->Prop):Prop:=∀ fr st,Fr.le (EU S.fr []) fr->ajV S.m S.ln st->X fr st
noncomputable def afE (f:Fc) (l:List (Nat×V)):Bool:=List.rec (motive:=fun _=>Bool) true (fun q _ ih=>cC (gK ((jE q.1).run f) q.2) ih) l
noncomputable def ajW (T:Sd) (f:Fc) (m:SM):Bool:=m.cas fun gn g ln _=>cC (Nat.beq ln T.ln) (cC (DK T.m gn g) (afE f T.fr))
theorem covR_ok {f:Fc}:∀ {l:List (Nat×V)},afE f l=true->∀ n v,(n,v)∈l->(jE n).run f=v
 |[],_,_,_,hm=>by cases hm
 |(j,u)::r,h,n,v,hm=>by
  obtain ⟨h1,h2⟩:=bN (show cC (gK ((jE j).run f) u) (afE f r)=true from h)
  cases hm with
  |head=>exact lQ _ _ h1
  |tail _ hm=>exact covR_ok h2 n v hm
theorem covS_ok {T:Sd} {f:Fc} {m:SM} (h:ajW T f m=true) {fr:Fr} {st:St} (hf:sE f fr) (hs:fB m st):Fr.le (EU T.fr []) fr/\ajV T.m T.ln st:=by
 obtain ⟨gn,g,ln,l⟩:=m
 obtain ⟨h1,h2⟩:=bN (show cC (Nat.beq ln T.ln) (cC (DK T.m gn g) (afE f T.fr))=true from h)
 obtain ⟨h2,h3⟩:=bN h2
 obtain ⟨h4,h5⟩:=bN h2
 refine ⟨fun t=>?_,hs.1.trans (jG h4),hs.2.1.trans (jG h1),fun k o hk=>hs.2.2.1 k o (covG_ok h5 k o hk)⟩
 rcases Lj (n:=t) T.fr [] with ⟨v,a1,a2⟩|a
 · refine .inl ?_
   rw [a2,<-hf t,covR_ok h3 t v a1]
 · exact .inr a
theorem Qs {α:Type} (M:Md):∃ t,(∀ k:TH->α,IZ M.g .nil k=k t)/\∀ ln st,ajV M ln st->fB (.mk M.n t ln .nil) st:=by
 obtain ⟨t,e1,e2⟩:=memK_ok (α:=α) M.g .nil
 exact ⟨t,e1,fun ln st hm=>⟨hm.1,hm.2.1,fun k o hk=>(e2 k o hk).elim (hm.2.2 k o) (fun e=>by cases e),fun _ _ e=>by cases e⟩⟩
theorem ao1:sE Qa []:=fun n=>Qf n
noncomputable def Gp (gc:iE (Fc->SM->(SM->Rz)->Rz)) (b:Rg) (rf:Rf) (n:Nat):Fc->SM->Rz:=Nat.rec (motive:=fun _=>Fc->SM->Rz) (fun f m=>.p8 f m) (fun _ ih f m=>gc.run f m fun m=>jB (b.run rf f m) ih) n
section
variable {A:bK} {gc:iE (Fc->SM->(SM->Rz)->Rz)} (Cj:IY gc) {rf:Rf} (hA:Ci rf A)
include hA
theorem CJ {a b:AC} {Q:Ex->Fr->St->Prop} {f f1:Fc} {m m1:SM} {fr:Fr} {st:St} (h:(bX eJ a).run rf f m=.p8 f1 m1) (hf:sE f fr) (hs:fB m st) (hb:∀ fr st,sE f1 fr->fB m1 st->rX A b Q fr st):rX A (.seq a b) Q fr st:=
 code2_ok noGc_ok hA a f m fr st _ (rW (rX A b Q) Q) h (fun e=>by cases e) hf hs fun e bV bA hk=>by
  obtain ⟨rfl,x,y⟩:=hk
  exact hb _ _ x y
include Cj
theorem Lm {B:AC} {Q:Ex->Fr->St->Prop} {R:Fr->St->Prop} (hR:∀ fr bV st,Fr.le bV fr->rX A B (rW R Q) bV st->R fr st) {r:Rz} (hr:r≠.none)
 (hN:∀ f m,r=.p8 f m->∀ fr st,sE f fr->fB m st->R fr st) (hE:∀ e fr st,e≠.normal->RzK r e fr st->Q e fr st):
 ∀ (n:Nat) (f:Fc) (m:SM) (iW fr:Fr) (st:St),Gp gc (bX eJ B) rf (n+1) f m=r->Fr.le iW fr->sE f iW->fB m st->R fr st:=by
 intro n
 induction n with
 |zero=>
  intro f m iW fr st h hle hf hs
  replace h:gc.run f m (fun m=>jB ((bX eJ B).run rf f m) fun f m=>.p8 f m)=r:=h
  obtain ⟨m1,h1,hm⟩:=Cj _ _ _ _ h hr
  refine hR fr iW st hle ?_
  cases hb:(bX eJ B).run rf f m1 with
  |none=>rw [hb] at h1;exact absurd h1.symm hr
  |p8 f2 m2=>
   rw [hb] at h1
   refine code2_ok noGc_ok hA B f m1 iW st _ _ hb (fun e=>by cases e) hf (hm st hs) fun e bV bA hk=>?_
   obtain ⟨rfl,a,b⟩:=hk
   exact hN f2 m2 h1.symm _ _ a b
  |exit id f2 m2=>
   rw [hb] at h1
   refine code2_ok noGc_ok hA B f m1 iW st _ _ hb (fun e=>by cases e) hf (hm st hs) fun e bV bA hk=>?_
   have l5:=hk
   obtain ⟨rfl,_⟩:=l5
   have h1:r=.exit id f2 m2:=h1.symm
   subst h1
   exact hE _ _ _ (fun e=>by cases e) hk
  |ret f2 m2=>
   rw [hb] at h1
   refine code2_ok noGc_ok hA B f m1 iW st _ _ hb (fun e=>by cases e) hf (hm st hs) fun e bV bA hk=>?_
   have l5:=hk
   obtain ⟨rfl,_⟩:=l5
   have h1:r=.ret f2 m2:=h1.symm
   subst h1
   exact hE _ _ _ (fun e=>by cases e) hk
 |succ n ih=>
  intro f m iW fr st h hle hf hs
  replace h:gc.run f m (fun m=>jB ((bX eJ B).run rf f m) (Gp gc (bX eJ B) rf (n+1)))=r:=h
  obtain ⟨m1,h1,hm⟩:=Cj _ _ _ _ h hr
  refine hR fr iW st hle ?_
  cases hb:(bX eJ B).run rf f m1 with
  |none=>rw [hb] at h1;exact absurd h1.symm hr
  |p8 f2 m2=>
   rw [hb] at h1
   refine code2_ok noGc_ok hA B f m1 iW st _ _ hb (fun e=>by cases e) hf (hm st hs) fun e bV bA hk=>?_
   obtain ⟨rfl,a,b⟩:=hk
   exact ih f2 m2 bV bV bA h1 (Fr.le_refl _) a b
  |exit id f2 m2=>
   rw [hb] at h1
   refine code2_ok noGc_ok hA B f m1 iW st _ _ hb (fun e=>by cases e) hf (hm st hs) fun e bV bA hk=>?_
   have l5:=hk
   obtain ⟨rfl,_⟩:=l5
   have h1:r=.exit id f2 m2:=h1.symm
   subst h1
   exact hE _ _ _ (fun e=>by cases e) hk
  |ret f2 m2=>
   rw [hb] at h1
   refine code2_ok noGc_ok hA B f m1 iW st _ _ hb (fun e=>by cases e) hf (hm st hs) fun e bV bA hk=>?_
   have l5:=hk
   obtain ⟨rfl,_⟩:=l5
   have h1:r=.ret f2 m2:=h1.symm
   subst h1
   exact hE _ _ _ (fun e=>by cases e) hk
end
noncomputable def aL (gc:iE (Fc->SM->(SM->Rz)->Rz)) (B:AC) (rf:Rf) (n:Nat) (S T:Sd):Bool:=
 IZ S.m.g .nil fun t=>frK false S.fr Qa fun f=>Rz.rec (motive:=fun _=>Bool) false (fun f m=>ajW T f m) (fun _ _ _=>false) (fun _ _=>false) (Gp gc (bX eJ B) rf (Nat.succ n) f (.mk S.m.n t S.ln .nil))
noncomputable def ajX (rs:List RV) (v:V) (M:Md) (r:Rz):Bool:=
 Rz.rec (motive:=fun _=>Bool) false (fun f m=>Cz.rec (motive:=fun _=>Bool) false (fun v' mm=>Mem.rec (motive:=fun _=>Bool) (fun n t=>cC (gK v' v) (DK M n t)) mm) ((DB rs).run f m)) (fun _ _ _=>false)
  (fun f m=>Cz.rec (motive:=fun _=>Bool) false (fun v' mm=>Mem.rec (motive:=fun _=>Bool) (fun n t=>cC (gK v' v) (DK M n t)) mm) ((DB rs).run f m)) r
noncomputable def qR (gc:iE (Fc->SM->(SM->Rz)->Rz)) (B X:AC) (rs:List RV) (rf:Rf) (n id:Nat) (S:Sd) (v:V) (M:Md):Bool:=
 IZ S.m.g .nil fun t=>frK false S.fr Qa fun f=>Rz.rec (motive:=fun _=>Bool) false (fun _ _=>false) (fun j f m=>cC (Nat.beq j id) (ajX rs v M ((bX eJ X).run rf f m))) (fun _ _=>false) (Gp gc (bX eJ B) rf (Nat.succ n) f (.mk S.m.n t S.ln .nil))
noncomputable def zA (A1 A2 A3:AC) (rf:Rf) (np:Nat) (args:List V) (M:Md) (S:Sd):Bool:=
 cC (Nat.beq (cK args) np) (IZ M.g .nil fun t=>Rz.rec (motive:=fun _=>Bool) false (fun f m=>ajW S f m) (fun _ _ _=>false) (fun _ _=>false)
  (pf2 args 0 Qa fun f=>jB ((bX eJ A1).run rf f (.mk M.n t 0 .nil)) fun f m=>jB ((bX eJ A2).run rf f m) fun f m=>(bX eJ A3).run rf f m))
section
variable {A:bK} {gc:iE (Fc->SM->(SM->Rz)->Rz)} (Cj:IY gc) {rf:Rf} (hA:Ci rf A)
include Cj hA
theorem runCh_ok {B:AC} {n:Nat} {S T:Sd} (h:aL gc B rf n S T=true) {Q:Ex->Fr->St->Prop} (hT:At T (rX A (.loop B) Q)):At S (rX A (.loop B) Q):=by
 intro fr st hle hs
 simp only [rX]
 intro R hR
 obtain ⟨t,e1,e2⟩:=Qs (α:=Bool) S.m
 unfold aL at h
 rw [e1] at h
 obtain ⟨f,h,hf⟩:=frK_ok (by decide) S.fr Qa _ h
 cases hq:Gp gc (bX eJ B) rf (Nat.succ n) f (.mk S.m.n t S.ln .nil) with
 |p8 f' m'=>
  rw [hq] at h
  refine Lm Cj hA hR (r:=.p8 f' m') (fun e=>by cases e) (fun f m e fr st hf hs=>?_) (fun e fr st dX hk=>absurd hk.1 dX) n f _ _ fr st hq hle (hf [] ao1) (e2 _ st hs)
  cases e
  obtain ⟨a,b⟩:=covS_ok h hf hs
  have:=hT fr st a b
  simp only [rX] at this
  exact this R hR
 |none=>rw [hq] at h;cases h
 |exit id f' m'=>rw [hq] at h;cases h
 |ret f' m'=>rw [hq] at h;cases h
omit Cj hA in
theorem endB_ok {rs:List RV} {v:V} {M:Md} {r:Rz} (h:ajX rs v M r=true) {K:V->aC->Prop} (hK:∀ h',Pf M h'->K v h'):r≠.none/\∀ e fr st,RzK r e fr st->mT rs K e fr st:=by
 have fin:∀ {f:Fc} {m:SM},Cz.rec (motive:=fun _=>Bool) false (fun v' mm=>Mem.rec (motive:=fun _=>Bool) (fun n t=>cC (gK v' v) (DK M n t)) mm) ((DB rs).run f m)=true->
  ∀ {fr:Fr} {st:St},sE f fr->fB m st->xT fr st rs=some v/\K v st.g:=by
  intro f m h fr st hf hs
  cases hq:(DB rs).run f m with
  |none=>rw [hq] at h;cases h
  |some v' mm=>
   rw [hq] at h
   obtain ⟨n,t⟩:=mm
   obtain ⟨h1,h2⟩:=bN (show cC (gK v' v) (DK M n t)=true from h)
   obtain ⟨h3,h4⟩:=endC_ok hf hs hq
   rw [lQ _ _ h1] at h3
   exact ⟨h3,hK _ (covM_ok h2 h4)⟩
 cases r with
 |none=>cases h
 |exit id f m=>cases h
 |p8 f m=>
  refine ⟨(fun e=>by cases e),fun e fr st hk=>?_⟩
  obtain ⟨rfl,a,b⟩:=hk
  obtain ⟨h1,h2⟩:=fin h a b
  simp only [mT,h1]
  exact h2
 |ret f m=>
  refine ⟨(fun e=>by cases e),fun e fr st hk=>?_⟩
  obtain ⟨rfl,a,b⟩:=hk
  obtain ⟨h1,h2⟩:=fin h a b
  simp only [mT,h1]
  exact h2
theorem runLast_ok {B X:AC} {rs:List RV} {n id:Nat} {S:Sd} {v:V} {M:Md} (h:qR gc B X rs rf n id S v M=true) {K:V->aC->Prop} (hK:∀ h',Pf M h'->K v h'):
 At S (rX A (.loop B) (jD id (rW (rX A X (mT rs K)) (mT rs K)))):=by
 intro fr st hle hs
 simp only [rX]
 intro R hR
 obtain ⟨t,e1,e2⟩:=Qs (α:=Bool) S.m
 unfold qR at h
 rw [e1] at h
 obtain ⟨f,h,hf⟩:=frK_ok (by decide) S.fr Qa _ h
 cases hq:Gp gc (bX eJ B) rf (Nat.succ n) f (.mk S.m.n t S.ln .nil) with
 |exit j f' m'=>
  rw [hq] at h
  obtain ⟨h1,h2⟩:=bN (show cC (Nat.beq j id) (ajX rs v M ((bX eJ X).run rf f' m'))=true from h)
  have h1:=jG h1
  subst h1
  refine Lm Cj hA hR (r:=.exit j f' m') (fun e=>by cases e) (fun f m e=>by cases e) (fun e fr st dX hk=>?_) n f _ _ fr st hq hle (hf [] ao1) (e2 _ st hs)
  obtain ⟨rfl,a,b⟩:=hk
  obtain ⟨g1,g2⟩:=endB_ok h2 hK
  simp only [jD,if_pos]
  exact code2_ok noGc_ok hA X f' m' fr st _ _ rfl g1 a b g2
 |none=>rw [hq] at h;cases h
 |p8 f' m'=>rw [hq] at h;cases h
 |ret f' m'=>rw [hq] at h;cases h
end
theorem cut_ok {P:Program} {rf:Rf} (hA:Ci rf (aE P)) {f:Nat} {F:aF} (hk:iY P f F=true) {A1 A2 A3 B X:AC} {id:Nat} (hb:F.body=.seq A1 (.seq A2 (.seq (.seq A3 (.bI id (.loop B))) X))) {args:List V} {M:Md} {v:V} {M':Md} {S:Sd}
 (O2:zA A1 A2 A3 rf F.nparams args M S=true) (ao2:∀ K:V->aC->Prop,(∀ h',Pf M' h'->K v h')->At S (rX (aE P) (.loop B) (jD id (rW (rX (aE P) X (mT F.results K)) (mT F.results K))))):Fact P f args M v M':=by
 intro h hM K hK
 obtain ⟨n1,h2⟩:=bN O2
 have n1:=jG n1
 rw [bT] at n1
 refine fn_ok hk n1 ?_
 rw [hb]
 obtain ⟨t,e1,e2⟩:=DL (α:=Bool) M
 rw [e1] at h2
 cases hq:pf2 args 0 Qa fun f=>jB ((bX eJ A1).run rf f (.mk M.n t 0 .nil)) fun f m=>jB ((bX eJ A2).run rf f m) fun f m=>(bX eJ A3).run rf f m with
 |none=>rw [hq] at h2;cases h2
 |exit id f' m'=>rw [hq] at h2;cases h2
 |ret f' m'=>rw [hq] at h2;cases h2
 |p8 f' m'=>
  rw [hq] at h2
  obtain ⟨f0,hc,uB⟩:=wJ (by intro e;cases e) hq
  cases ha1:(bX eJ A1).run rf f0 (.mk M.n t 0 .nil) with
  |none=>rw [ha1] at hc;cases hc
  |exit id f1 m1=>rw [ha1] at hc;cases hc
  |ret f1 m1=>rw [ha1] at hc;cases hc
  |p8 f1 m1=>
   rw [ha1] at hc
   replace hc:jB ((bX eJ A2).run rf f1 m1) (fun f m=>(bX eJ A3).run rf f m)=.p8 f' m':=hc
   cases ha2:(bX eJ A2).run rf f1 m1 with
   |none=>rw [ha2] at hc;cases hc
   |exit id f2 m2=>rw [ha2] at hc;cases hc
   |ret f2 m2=>rw [ha2] at hc;cases hc
   |p8 f2 m2=>
    rw [ha2] at hc
    replace hc:(bX eJ A3).run rf f2 m2=.p8 f' m':=hc
    refine CJ hA ha1 uB (noL_ok (e2 h hM)) fun F9 T8 a1 b1=>?_
    refine CJ hA ha2 a1 b1 fun fr2 PZ a2 b2=>?_
    show rX (aE P) (.seq A3 (.bI id (.loop B))) (rW (rX (aE P) X (mT F.results K)) (mT F.results K)) fr2 PZ
    refine CJ hA hc a2 b2 fun fr3 st3 a3 b3=>?_
    obtain ⟨x,y⟩:=covS_ok h2 a3 b3
    exact ao2 K hK fr3 st3 x y
open Go
abbrev Oc:=iE (Rf->List V->Mem->Cz)
noncomputable def Ry (l:List V) (k:V->Cz) (e:Cz):Cz:=List.rec (motive:=fun _=>Cz) e (fun a r _=>List.rec (motive:=fun _=>Cz) (k a) (fun _ _ _=>e) r) l
noncomputable def Pg (l:List V) (k:V->V->Cz) (e:Cz):Cz:=List.rec (motive:=fun _=>Cz) e (fun a r _=>List.rec (motive:=fun _=>Cz) e (fun b q _=>List.rec (motive:=fun _=>Cz) (k a b) (fun _ _ _=>e) q) r) l
noncomputable def ao4 (l:List V) (k:V->V->V->Cz) (e:Cz):Cz:=List.rec (motive:=fun _=>Cz) e (fun a r _=>Pg r (fun b c=>k a b c) e) l
noncomputable def ajY (m:Mem) (key:Key) (k:Nat->Nat->TH->Obj->Cz):Cz:=pF key (fun a=>Mem.rec (motive:=fun _=>Cz) (fun n t=>bM (t.get a a) Cz.none fun o=>k a n t o) m) fun _=>.none
noncomputable def AG (m:Mem) (key:Key) (k:Nat->Nat->TH->List V->Cz):Cz:=ajY m key fun a n t o=>Gi (fun c=>k a n t c) (fun _ _=>.none) .none (fun _ _=>.none) o
noncomputable def ajZ (m:Mem) (key:Key) (k:List (V×V)->Cz):Cz:=ajY m key fun _ _ _ o=>Gi (fun _=>.none) (fun _ _=>.none) .none (fun kd es=>bM kd (k es) fun _=>.none) o
noncomputable def isV (o:Option V) (v:V):Bool:=bM o false fun u=>gK u v
noncomputable def I0 (v:V) (k:Key->Nat->Cz):Cz:=vP .none k (fun _ _ _ _=>.none) (fun _ _=>.none) v
noncomputable def ah3:Oc:=⟨fun rf args m=>Pg args (fun p g=>vF .none (fun g first cap=>I0 p fun key off=>AG m key fun a n t c=>
 aT (isV (iS c off) (.i .u32 (.ofNat 1))) (.some (.bC []) m) (aT (cC (isV (iS c off) (.i .u32 (.ofNat 0))) (isV (iS c (Nat.succ off)) (.i .i32 (.ofNat 0))))
  (spell (sS c (Nat.succ off) [.i .i32 (.ofNat 1)]) fun c=>TH.put a (.cs c) t a 1 fun t=>Cz.rec (motive:=fun _=>Cz) .none (fun _ m=>AG m (.g a) fun _ n t c=>
    aT (cC (isV (iS c off) (.i .u32 (.ofNat 0))) (isV (iS c (Nat.succ off)) (.i .i32 (.ofNat 1)))) (spell (sS c off [.i .u32 (.ofNat 1),.i .i32 (.ofNat 0)]) fun c=>TH.put a (.cs c) t a 1 fun t=>.some (.bC []) (.mk n t)) .none) (rf g (wX first cap) (.mk n t))) .none)) g) .none⟩
noncomputable def ao5:Oc:=⟨fun _ args m=>Pg args (fun p d=>I0 p fun key off=>AG m key fun a n t c=>bM (iS c off) Cz.none fun x=>fU .none (fun k y=>aT (qZ k .i64) (fU .none (fun k z=>aT (qZ k .i64) (iC (fun w=>uH w fun w=>spell (sS c off [.i .i64 (.ofNat w)]) fun c=>TH.put a (.cs c) t a 1 fun t=>Cz.some (.i .i64 (.ofNat w)) (.mk n t)) (fun _=>Cz.none) (wr .i64 (ajE y z))) .none) d) .none) x) .none⟩
noncomputable def VW (x:List UInt8) (l:List (List UInt8)):List (List UInt8):=List.rec (motive:=fun _=>List (List UInt8)) [x] (fun y r ih=>aT (Ow y x) (y::ih) (x::y::r)) l
noncomputable def VX (es:List (V×V)) (k:List (List UInt8)->Cz):Cz:=List.rec (motive:=fun _=>(List (List UInt8)->Cz)->Cz) (fun k=>k []) (fun q _ ih k=>mB .none (fun x=>aT (Nat.ble (cK x) 9223372036854775807) (ih fun l=>spell (VW x l) k) .none) q.1) es k
noncomputable def upB (l:List (List UInt8)):Bool:=List.rec (motive:=fun _=>Bool) true (fun x r ih=>List.rec (motive:=fun _=>Bool) true (fun y _ _=>cC (Ow x y) ih) r) l
noncomputable def VY (l:List (List UInt8)):List (List V):=List.rec (motive:=fun _=>List (List V)) [] (fun x _ ih=>[.s x]::ih) l
noncomputable def Qt (keys:Nat):Oc:=⟨fun _ args m=>Ry args (fun q=>vF .none (fun f fi ca=>aT (cC (Nat.beq f keys) (Nat.beq (cK fi) 0)) (Ry ca (fun p=>I0 p fun key off=>aT (Nat.beq off 0) (AG m key fun _ _ _ c=>bM (iS c 0) Cz.none fun x=>vM .none (.some .aB m) (fun key=>ajZ m key fun es=>
 VX es fun l=>aT (cC (upB l) (Nat.ble (cK l) 1000000)) (spell (VY l) fun r=>.some (.sl none 1 r) m) .none) x) .none) .none) .none) q) .none⟩
noncomputable def ao6:Oc:=⟨fun _ args m=>Pg args (fun a b=>mB .none (fun a=>mB .none (fun b=>.some (.i .i64 (aT (Ow a b) (.negSucc 0) (aT (ID a b) (.ofNat 0) (.ofNat 1)))) m) b) a) .none⟩
noncomputable def VZ (gL:Oc):Oc:=⟨fun rf args m=>Ry args (fun v=>vL (gL.run rf args m) (fun _=>gL.run rf args m) (gL.run rf args m) (fun t z es=>bM t (aT (cC (Nat.beq z 1) (Nat.ble (cK es) 1000000000)) (bM (Bc es) (gL.run rf args m) fun _=>.some (.sl none 1 es) m) (gL.run rf args m)) fun _=>gL.run rf args m) (fun _ _ _ _=>gL.run rf args m) v) .none⟩
noncomputable def preB (p s:List UInt8):Bool:=List.rec (motive:=fun _=>List UInt8->Bool) (fun _=>true) (fun c _ ih s=>List.rec (motive:=fun _=>Bool) false (fun d r _=>cC (Nat.beq (Cf c) (Cf d)) (ih r)) s) p s
noncomputable def wL (key:List UInt8) (rev:Int) (es:List (V×V)) (k:Bool->Cz):Cz:=List.rec (motive:=fun _=>(Bool->Cz)->Cz) (fun k=>k true) (fun q _ ih k=>mB .none (fun s=>aT (Nat.ble (cK s) 9223372036854775807) (fU .none (fun kd n=>aT (qZ kd .i64) (aT (cC (Ov rev n) (preB key s)) (ih fun _=>k false) (ih k)) .none) q.2) .none) q.1) es k
noncomputable def V0 (o:Option V) (k:Int->Cz):Cz:=bM o Cz.none fun x=>fU .none (fun kd n=>aT (qZ kd .i64) (k n) .none) x
noncomputable def aj0 (o:Option V) (k:Nat->Cz):Cz:=bM o Cz.none fun x=>vM .none .none (fun key=>pF key k fun _=>.none) x
noncomputable def ao7 (o:Option V) (k:List UInt8->Cz):Cz:=bM o Cz.none fun x=>mB .none (fun s=>aT (Nat.ble (cK s) 9223372036854775807) (k s) .none) x
noncomputable def ao8 (o:Option V) (k:Nat->Cz):Cz:=bM o Cz.none fun x=>I0 x fun key off=>aT (Nat.beq off 0) (pF key k fun _=>.none) .none
noncomputable def V1 (c:List V) (k:Nat->Cz):Cz:=aT (Nat.beq (cK c) 6) (V0 (iS c 0) fun _=>aj0 (iS c 1) fun _=>aj0 (iS c 2) fun m1=>ao8 (iS c 3) fun _=>V0 (iS c 4) fun _=>V0 (iS c 5) fun _=>k m1) .none
noncomputable def V2 (gL:Oc):Oc:=⟨fun rf args m=>Pg args (fun p g=>vA .none (fun cs=>aT (isV (iS cs 2) (.b true)) (aT (Nat.beq (cK cs) 3) (I0 p fun key off=>aT (Nat.beq off 0) (AG m key fun _ _ _ c=>V1 c fun mk=>ajZ m (.g mk) fun es=>
 ao7 (iS cs 0) fun kx=>V0 (iS cs 1) fun r=>wL kx r es fun b=>.some (.b b) m) .none) .none) (gL.run rf args m)) g) .none⟩
noncomputable def aj1 (p c:List V) (k:List V->Cz) (e:Cz):Cz:=List.rec (motive:=fun _=>List V->Cz) (fun c=>k c) (fun x _ ih c=>List.rec (motive:=fun _=>Cz) e (fun y r _=>aT (gK x y) (ih r) e) c) p c
noncomputable def V3 (tF tT:List V):Oc:=⟨fun _ args m=>Ry args (fun p=>I0 p fun key off=>aT (Nat.beq off 0) (AG m key fun a n t c=>
 aT (isV (iS c 0) (.i .u32 (.ofNat 1))) (uH (Nat.add n 1) fun n=>.some (.bC []) (.mk n t)) (aj1 tF c (fun r=>spell (wX tT r) fun c=>TH.put a (.cs c) t a 1 fun t=>uH (Nat.add n 2) fun n=>.some (.bC []) (.mk n t)) .none)) .none) .none⟩
noncomputable def afF (size n:Nat) (acc:List (List V)):List (List V):=Nat.rec (motive:=fun _=>Nat->List (List V)->List (List V)) (fun _ acc=>acc) (fun _ ih n acc=>uH (Nat.mod n 256) fun b=>uH (Nat.div n 256) fun n=>ih n ([.i .u8 (.ofNat b)]::acc)) size n acc
noncomputable def V4 (a n w s:Nat) (c:List V) (es:List (List V)) (t:TH):Cz:=uH (Nat.add n (Nat.mul 2 s)) fun n2=>uH (Nat.sub n2 1) fun tok=>spell (wX es (afF s w [])) fun es2=>spell (sS c 297 [.sl (some (.g tok)) 1 es2]) fun c=>TH.put tok .spare t tok 1 fun t=>TH.put a (.cs c) t a 1 fun t=>.some (.bC []) (.mk n2 t)
noncomputable def ah4 (gL:Oc):Oc:=⟨fun rf args m=>ao4 args (fun p nv sv=>I0 p fun key off=>aT (Nat.beq off 0) (fU .none (fun kd z=>aT (qZ kd .i64) (iC (fun w=>fU .none (fun kd sz=>aT (qZ kd .i64) (iC (fun s=>aT (cC (Nat.ble 1 s) (Nat.ble s 8)) (AG m key fun a n t c=>bM (iS c 297) Cz.none fun x=>
 vL .none (fun _=>.none) (V4 a n w s c [] t) (fun tk z es=>bM tk Cz.none fun kk=>pF kk (fun k0=>aT (cC (Nat.beq z 1) (Nat.ble (cK es) 100000000)) (bM (t.get k0 k0) Cz.none fun o=>Gi (fun _=>.none) (fun _ _=>.none) (TH.del k0 t k0 fun t=>V4 a n w s c es t) (fun _ _=>.none) o) .none) fun _=>.none) (fun _ _ _ _=>.none) x) .none) (fun _=>.none) sz) .none) sv) (fun _=>gL.run rf args m) z) .none) nv) .none) .none⟩
noncomputable def rdB (s:Nat) (es:List (List V)) (acc:Nat) (k:Nat->List (List V)->Cz) (e:Cz):Cz:=Nat.rec (motive:=fun _=>List (List V)->Nat->Cz) (fun es acc=>k acc es) (fun _ ih es acc=>List.rec (motive:=fun _=>Cz) e (fun x q _=>Ry x (fun v=>fU .none (fun kd z=>aT (qZ kd .u8) (iC (fun b=>aT (Nat.ble b 255) (uH (Nat.add (Nat.mul acc 256) b) fun acc=>ih q acc) .none) (fun _=>.none) z) .none) v) .none) es) s es acc
noncomputable def ah5 (gL:Oc):Oc:=⟨fun rf args m=>Pg args (fun p sv=>I0 p fun key off=>aT (Nat.beq off 0) (fU .none (fun kd sz=>aT (qZ kd .i64) (iC (fun s=>aT (Nat.ble s 8) (AG m key fun a n t c=>bM (iS c 297) Cz.none fun x=>
 vL .none (fun _=>.none) (gL.run rf args m) (fun tk z es=>bM tk (aT (cC (Nat.beq z 1) (Nat.ble (cK es) 1000000000)) (rdB s es 0 (fun acc r=>aT (Nat.ble acc 9223372036854775807) (spell (sS c 297 [.sl none 1 r]) fun c=>TH.put a (.cs c) t a 1 fun t=>.some (.i .i64 (.ofNat acc)) (.mk n t)) .none) (gL.run rf args m)) .none) fun _=>.none) (fun _ _ _ _=>.none) x) .none) (fun _=>.none) sz) .none) sv) .none) .none⟩
open Go
theorem uL.app {A:bK} {f:Nat} {aEo:List V} {h:aC} {K:V->aC->Prop} {X:Prop} (g:X->A f aEo h K) (x:X):uL A f aEo h K:=⟨g x⟩
def Key.fS {α:Type} (a:Key) (k:Key->α):α:=
 match a with
 |.g n=>k (.g n)
 |.l n=>k (.l n)
def V.f1 {α:Type} (v:V) (k:V->α):α:=
 match v with
 |.b x=>k (.b x)
 |.i kd n=>k (.i kd n)
 |.s x=>k (.s x)
 |.fM=>k .fM
 |.p a o=>a.fS fun a=>k (.p a o)
 |.pa a z ix o=>a.fS fun a=>k (.pa a z ix o)
 |.pc c o=>k (.pc c o)
 |.aB=>k .aB
 |.sl t z e=>match t with
  |some a=>a.fS fun a=>k (.sl (some a) z e)
  |none=>k (.sl none z e)
 |.ms a z u l=>a.fS fun a=>k (.ms a z u l)
 |.eG=>k .eG
 |.m a=>a.fS fun a=>k (.m a)
 |.fn f a c=>k (.fn f a c)
 |.fN=>k .fN
 |.agg c=>k (.agg c)
 |.bC c=>k (.bC c)
 |.bL=>k .bL
theorem Key.uT {α:Type} (a:Key) (k:Key->α):a.fS k=k a:=by cases a<;>rfl
theorem V.V9 {α:Type} (v:V) (k:V->α):v.f1 k=k v:=by
 cases v<;>(try rfl)
 case sl t z e=>cases t<;>simp only [V.f1,Key.uT]
 all_goals simp only [V.f1,Key.uT]
def zD {α:Type}:List V->(List V->α)->α
 |[],k=>k []
 |v::r,k=>v.f1 fun v=>zD r fun r=>k (v::r)
theorem Bn {α:Type}:∀ (l:List V) (k:List V->α),zD l k=k l
 |[],_=>rfl
 |v::r,k=>by simp only [zD,V.V9];rw [Bn r]
def V.f2 {α:Type} (v:V) (k:V->α):α:=
 match v with
 |.agg c=>zD c fun c=>k (.agg c)
 |.fn f a c=>zD a fun a=>zD c fun c=>k (.fn f a c)
 |v=>v.f1 k
theorem V.Wa {α:Type} (v:V) (k:V->α):v.f2 k=k v:=by
 cases v<;>simp only [V.f2,Bn,V.V9]
def afJ {α:Type}:List V->(List V->α)->α
 |[],k=>k []
 |v::r,k=>v.f2 fun v=>afJ r fun r=>k (v::r)
theorem Qy {α:Type}:∀ (l:List V) (k:List V->α),afJ l k=k l
 |[],_=>rfl
 |v::r,k=>by simp only [afJ,V.Wa];rw [Qy r]
def V.f3 {α:Type} (v:V) (k:V->α):α:=
 match v with
 |.bC c=>afJ c fun c=>k (.bC c)
 |v=>v.f2 k
theorem V.Wb {α:Type} (v:V) (k:V->α):v.f3 k=k v:=by
 cases v<;>simp only [V.f3,Qy,V.Wa]
def aj5 {α:Type}:List (V×V)->(List (V×V)->α)->α
 |[],k=>k []
 |q::r,k=>match q with
  |(a,v)=>a.f1 fun a=>v.f2 fun v=>aj5 r fun r=>k ((a,v)::r)
theorem Qz {α:Type}:∀ (l:List (V×V)) (k:List (V×V)->α),aj5 l k=k l
 |[],_=>rfl
 |(a,v)::r,k=>by simp only [aj5,V.V9,V.Wa];rw [Qz r]
def Obj.fS {α:Type} (o:Obj) (k:Obj->α):α:=
 match o with
 |.cs c=>zD c fun c=>k (.cs c)
 |.arr z es=>k (.arr z es)
 |.spare=>k .spare
 |.mp kd es=>k (.mp kd es)
theorem Obj.uT {α:Type} (o:Obj) (k:Obj->α):o.fS k=k o:=by cases o<;>simp only [Obj.fS,Bn,Qz]
def Lq {α:Type}:List (Nat×Obj)->(List (Nat×Obj)->α)->α
 |[],k=>k []
 |q::r,k=>match q with
  |(n,o)=>o.fS fun o=>Lq r fun r=>k ((n,o)::r)
theorem Lr {α:Type}:∀ (l:List (Nat×Obj)) (k:List (Nat×Obj)->α),Lq l k=k l
 |[],_=>rfl
 |(n,o)::r,k=>by simp only [Lq,Obj.uT];rw [Lr r]
def St.fS {α:Type} (st:St) (k:St->α):α:=
 match st with
 |⟨⟨x,a⟩,⟨y,b⟩⟩=>Lq a fun a=>Lq b fun b=>k ⟨⟨x,a⟩,⟨y,b⟩⟩
theorem St.uT {α:Type} (st:St) (k:St->α):st.fS k=k st:=by
 obtain ⟨⟨x,a⟩,⟨y,b⟩⟩:=st
 simp only [St.fS,Lr]
def Fr.fS {α:Type}:Fr->(Fr->α)->α
 |[],k=>k []
 |q::r,k=>match q with
  |(n,v)=>v.f3 fun v=>Fr.fS r fun r=>k ((n,v)::r)
theorem Fr.uT {α:Type}:∀ (l:Fr) (k:Fr->α),Fr.fS l k=k l
 |[],_=>rfl
 |(n,o)::r,k=>by simp only [Fr.fS,V.Wb];rw [Fr.uT r]
def wT.iN:wT->Bool
 |.alloc _ _=>true
 |.box _ _=>true
 |.Ug _ _ _ _ _=>true
 |.store _ _ _=>true
 |.Uh _ _=>true
 |.BA _ _=>true
 |.Kl _ _ _ _ _ _=>true
 |.EA _ _ _ _=>true
 |.call _ _=>true
 |.xS _ _=>true
 |.append _ _ _ _ _=>true
 |.copy _ _ _=>true
 |.delete _ _ _=>true
 |.clear _ _ _=>true
 |_=>false
def DP {α:Type} (o:wT) (x:R) (k:V->St->α):α:=
 match x with
 |(v,st)=>match o.iN with
  |true=>st.fS fun st=>v.f3 fun v=>k v st
  |false=>v.f3 fun v=>k v st
theorem Ls {α:Type} (o:wT) (v:V) (st:St) (k:V->St->α):DP o (v,st) k=k v st:=by
 unfold DP
 cases o.iN<;>simp only [V.Wb,St.uT]
def Bo (o:wT) (fr:Fr) (st:St):T R:=
 match o with
 |.zX max xs=>iB (.zX max xs) fr st
 |.append m sz bytes s x=>iB (.append m sz bytes s x) fr st
 |.tK sz x lo hi mx=>iB (.tK sz x lo hi mx) fr st
 |.copy sz d x=>iB (.copy sz d x) fr st
 |.PN x=>iB (.PN x) fr st
 |o=>step o fr st
theorem Lt {A:bK} {o:wT} {fr:Fr} {st:St} {K:R->Prop} (h:(Bo o fr st).wp A K):(step o fr st).wp A K:=by
 cases o<;>first|exact h|exact AE h
noncomputable def T.sq {α:Type} (A:bK) (t:T α):(α->Prop)->Prop:=
 T.rec (motive:=fun _=>(α->Prop)->Prop) (fun a K=>K a) (fun c _ _ it ie K=>l6 c (it K) (ie K)) (fun o _ ih K=>yA o fun x=>ih x K) (fun o _ ih K=>yA o fun x=>ih x K) (fun o _ ih K=>yA o fun x=>ih x K)
  (fun o _ ih K=>yA o fun x=>ih x K) (fun o _ ih K=>yA o fun x=>ih x K) (fun o _ _ Kr ih K=>rA o (Kr K) fun x=>ih x K) (fun c _ ih K=>gJ c (ih K)) (fun kd n _ ih K=>fL kd n fun x=>ih x K) (fun _ ih K=>Rx fun r=>ih r K)
  (fun v u _ ih K=>BO v u (ih K)) (fun f aEo h _ ih K=>uL A f aEo h fun r h'=>ih r h' K) (fun _=>False) t
theorem T.ah8 {α:Type} (A:bK) (t:T α):∀ K,t.sq A K=t.sp A K:=by
 induction t with
 |ret a=>exact fun K=>rfl
 |ite c t e Uq Ur=>intro K;show l6 c (t.sq A K) (e.sq A K)=_;rw [Uq,Ur];rfl
 |elem o k ih=>intro K;show (yA o fun x=>(k x).sq A K)=_;simp only [ih];rfl
 |byte o k ih=>intro K;show (yA o fun x=>(k x).sq A K)=_;simp only [ih];rfl
 |gL o k ih=>intro K;show (yA o fun x=>(k x).sq A K)=_;simp only [ih];rfl
 |Kk o k ih=>intro K;show (yA o fun x=>(k x).sq A K)=_;simp only [ih];rfl
 |obj o k ih=>intro K;show (yA o fun x=>(k x).sq A K)=_;simp only [ih];rfl
 |oV o n k Kr ih=>intro K;show (rA o (n.sq A K) fun x=>(k x).sq A K)=_;simp only [Kr,ih];rfl
 |mL c k ih=>intro K;show gJ c (k.sq A K)=_;rw [ih];rfl
 |wrap kd n k ih=>intro K;show (fL kd n fun x=>(k x).sq A K)=_;simp only [ih];rfl
 |any k ih=>intro K;show (Rx fun x=>(k x).sq A K)=_;simp only [ih];rfl
 |same v u k ih=>intro K;show BO v u (k.sq A K)=_;rw [ih];rfl
 |call f aEo h k ih=>intro K;show (uL A f aEo h fun r h'=>(k r h').sq A K)=_;simp only [ih];rfl
 |fail=>exact fun K=>rfl
noncomputable def T.bq {α β:Type} (t:T α) (f:α->T β):T β:=
 T.rec (motive:=fun _=>T β) (fun a=>f a) (fun c _ _ it ie=>.ite c it ie) (fun o _ ih=>.elem o ih) (fun o _ ih=>.byte o ih) (fun o _ ih=>.gL o ih) (fun o _ ih=>.Kk o ih) (fun o _ ih=>.obj o ih) (fun o _ _ Kr ih=>.oV o Kr ih)
  (fun c _ ih=>.mL c ih) (fun kd n _ ih=>.wrap kd n ih) (fun _ ih=>.any ih) (fun v u _ ih=>.same v u ih) (fun g aEo h _ ih=>.call g aEo h ih) .fail t
theorem T.Gt {α β:Type} (t:T α) (f:α->T β):t.bq f=t.bind f:=by
 induction t with
 |ret a=>rfl
 |ite c t e Uq Ur=>show T.ite c (t.bq f) (e.bq f)=_;rw [Uq,Ur];rfl
 |elem o k ih=>show (T.elem o fun x=>(k x).bq f)=_;simp only [ih];rfl
 |byte o k ih=>show (T.byte o fun x=>(k x).bq f)=_;simp only [ih];rfl
 |gL o k ih=>show (T.gL o fun x=>(k x).bq f)=_;simp only [ih];rfl
 |Kk o k ih=>show (T.Kk o fun x=>(k x).bq f)=_;simp only [ih];rfl
 |obj o k ih=>show (T.obj o fun x=>(k x).bq f)=_;simp only [ih];rfl
 |oV o n k Kr ih=>show (T.oV o (n.bq f) fun x=>(k x).bq f)=_;simp only [Kr,ih];rfl
 |mL c k ih=>show T.mL c (k.bq f)=_;rw [ih];rfl
 |wrap kd n k ih=>show (T.wrap kd n fun x=>(k x).bq f)=_;simp only [ih];rfl
 |any k ih=>show (T.any fun x=>(k x).bq f)=_;simp only [ih];rfl
 |same v u k ih=>show T.same v u (k.bq f)=_;rw [ih];rfl
 |call g aEo h k ih=>show (T.call g aEo h fun r h'=>(k r h').bq f)=_;simp only [ih];rfl
 |fail=>rfl
abbrev afK:=Fr->St->T (Fr×St)
noncomputable def opF (o:cG) (ih:afK):afK:=fun fr st=>
 match o.guard with
 |none=>(Bo o.op fr st).bq fun x=>DP o.op x fun v st=>fr.after o.dst v o.kill fun fr=>ih fr st
 |some (t,want)=>match fr.get t with
  |.b x=>match want with
   |true=>.ite x
    (fr.cut [t] fun r=>(Bo o.op ((t,.b true)::r) st).bq fun x=>DP o.op x fun v st=>Fr.after ((t,.b true)::r) o.dst v o.kill fun fr=>ih fr st)
    (fr.cut [t] fun r=>Fr.after ((t,.b false)::r) o.dst (.bC []) o.kill fun fr=>ih fr st)
   |false=>.ite x
    (fr.cut [t] fun r=>Fr.after ((t,.b true)::r) o.dst (.bC []) o.kill fun fr=>ih fr st)
    (fr.cut [t] fun r=>(Bo o.op ((t,.b false)::r) st).bq fun x=>DP o.op x fun v st=>Fr.after ((t,.b false)::r) o.dst v o.kill fun fr=>ih fr st)
  |.bC _=>fr.after o.dst (.bC []) o.kill fun fr=>ih fr st
  |_=>.fail
noncomputable def sW (l:List cG):afK:=
 List.rec (motive:=fun _=>afK) (fun fr st=>.ret (fr,st)) (fun o _ ih=>opF o ih) l
theorem I2 (o:cG) (l:List cG):sW (o::l)=opF o (sW l):=rfl
theorem zE {A:bK} (hA:A.AZ):∀ (ops:List cG) (fr:Fr) (st:St) (K:Fr×St->Prop),(sW ops fr st).wp A K->(dM ops fr st).wp A K
 |[],fr,st,K,h=>h
 |o::rest,fr,st,K,h=>by
  have one:∀ {iW:Fr},((Bo o.op iW st).bq fun x=>DP o.op x fun v st=>iW.after o.dst v o.kill fun fr=>sW rest fr st).wp A K->((step o.op iW st).bind fun x=>match x with
   |(v,st)=>iW.after o.dst v o.kill fun fr=>dM rest fr st).wp A K:=by
   intro iW h
   rw [T.Gt,T.wp_bind] at h
   rw [T.wp_bind]
   refine Lt ?_
   revert h
   refine T.wp_mono hA ?_
   rintro ⟨v,st⟩ h
   dsimp only at h ⊢
   rw [Ls,Fr.bW] at h
   rw [Fr.bW]
   exact zE hA rest _ _ K h
  have two:∀ {iW:Fr},(iW.after o.dst (.bC []) o.kill fun fr=>sW rest fr st).wp A K->(iW.after o.dst (.bC []) o.kill fun fr=>dM rest fr st).wp A K:=by
   intro iW h
   rw [Fr.bW] at h ⊢
   exact zE hA rest _ _ K h
  rw [I2] at h
  obtain ⟨dst,op,g,kill⟩:=o
  cases g with
  |none=>exact one h
  |some q=>
   obtain ⟨t,want⟩:=q
   simp only [opF] at h
   simp only [dM]
   generalize fr.get t=v at h ⊢
   cases v<;>(try exact h)
   case b x=>
    cases want
    · refine ⟨fun hc=>?_,fun hc=>?_⟩
      · have h:=h.1 hc
        rw [Fr.b8] at h ⊢
        exact two h
      · have h:=h.2 hc
        rw [Fr.b8] at h ⊢
        exact one h
    · refine ⟨fun hc=>?_,fun hc=>?_⟩
      · have h:=h.1 hc
        rw [Fr.b8] at h ⊢
        exact one h
      · have h:=h.2 hc
        rw [Fr.b8] at h ⊢
        exact two h
   case bC vs=>exact two h
abbrev afL:=List aO->Fr->St->T (Fr×St)
noncomputable def aj6 (d:aO) (ih:afL):afL:=fun done fr st=>rJ d.o.guard fr
 (fun fr=>(Bo d.o.op fr st).bq fun x=>DP d.o.op x fun v st=>fr.after d.o.dst v [] fun fr=>recheck d.re done fr st (ih (d::done) fr st))
 (fun fr=>fr.after d.o.dst (.bC []) [] fun fr=>ih (d::done) fr st)
noncomputable def Lu (l:List aO):afL:=
 List.rec (motive:=fun _=>afL) (fun _ fr st=>.ret (fr,st)) (fun d _ ih=>aj6 d ih) l
theorem Pm (o:aO) (l:List aO):Lu (o::l)=aj6 o (Lu l):=rfl
theorem DQ {A:bK} (hA:A.AZ):∀ (ds done:List aO) (fr:Fr) (st:St) (K:Fr×St->Prop),(Lu ds done fr st).wp A K->(gD done ds fr st).wp A K
 |[],done,fr,st,K,h=>h
 |d::rest,done,fr,st,K,h=>by
  rw [Pm] at h
  simp only [aj6] at h
  simp only [gD]
  refine yZ (fun fr h=>?_) (fun fr h=>?_) h
  · rw [T.Gt,T.wp_bind] at h
    rw [T.wp_bind]
    refine Lt ?_
    refine T.wp_mono hA ?_ h
    rintro ⟨v,st⟩ h
    dsimp only at h ⊢
    rw [Ls,Fr.bW] at h
    rw [Fr.bW]
    exact fZ hA (fun h=>DQ hA rest _ _ _ K h) h
  · rw [Fr.bW] at h ⊢
    exact DQ hA rest _ _ _ K h
abbrev Wc:=(Ex->Fr->St->Prop)->Fr->St->Prop
open Go
structure Ren where
 g:Nat->Nat
 l:Nat->Nat
def Ren.key (ρ:Ren):Key->Key
 |.g n=>.g (ρ.g n)
 |.l n=>.l (ρ.l n)
def V.Pn (ρ:Ren):V->V
 |.p k off=>.p (ρ.key k) off
 |.pa k sz ix off=>.pa (ρ.key k) sz ix off
 |.sl (some k) sz es=>.sl (some (ρ.key k)) sz es
 |.ms k sz st len=>.ms (ρ.key k) sz st len
 |.m k=>.m (ρ.key k)
 |v=>v
structure wN where
 g:Nat
 l:Nat
def wN.has (b:wN):Key->Prop
 |.g n=>n<b.g
 |.l n=>n<b.l
def V.bd0 (b:wN):V->Prop
 |.p k _=>b.has k
 |.pa k _ _ _=>b.has k
 |.sl (some k) _ _=>b.has k
 |.ms k _ _ _=>b.has k
 |.m k=>b.has k
 |.agg _=>False
 |.bC _=>False
 |.fn _ _ _=>False
 |_=>True
def Env.Ua (E:Env) (ρ:Ren) (b:wN):Env:=⟨E.I,fun k=>E.μ (ρ.key k),b.g,b.l⟩
theorem Env.AI {E:Env} {ρ:Ren} {b:wN} {k:Key} (h:b.has k):(E.Ua ρ b).has k:=by cases k<;>exact h
theorem Wd {E:Env} {ρ:Ren} {b:wN} {v:V} {x:Value} (hb:v.bd0 b) (h:Rel E (v.Pn ρ) x):Rel (E.Ua ρ b) v x:=by
 cases v
 case b=>cases h with|deep hd=>exact .deep hd
 case i=>cases h with|deep hd=>exact .deep hd
 case s=>cases h with|deep hd=>exact .deep hd
 case fM=>cases h with
  |deep hd=>exact .deep hd
  |fM=>exact .fM
 case p k off=>cases h with
  |deep hd=>cases hd
  |p _ _ hk=>exact .p (E:=E.Ua ρ b) k off (Env.AI hb)
 case pa k sz ix off=>cases h with
  |deep hd=>cases hd
  |pa _ _ _ _ hk=>exact .pa (E:=E.Ua ρ b) k sz ix off (Env.AI hb)
 case pc cs off=>cases h with
  |deep hd=>cases hd
  |pc _ _ bI o val hv hr=>exact .pc cs off bI o val hv hr
 case aB=>cases h with|deep hd=>exact .deep hd
 case sl tok sz es=>
  cases tok with
  |none=>cases h with|deep hd=>exact .deep hd
  |some k=>cases h with
   |deep hd=>cases hd
   |FU _ _ _ a cap hk hd hb' hs=>exact .FU (E:=E.Ua ρ b) k sz es a cap (Env.AI hb) hd hb' hs
 case ms k sz st len=>cases h with
  |deep hd=>cases hd
  |ms _ _ _ _ a cap hk hc hf hb' ha=>exact .ms (E:=E.Ua ρ b) k sz st len a cap (Env.AI hb) hc hf hb' ha
 case eG=>cases h with
  |deep hd=>exact .deep hd
  |eG=>exact .eG
 case m k=>cases h with
  |deep hd=>cases hd
  |m _ hk=>exact .m (E:=E.Ua ρ b) k (Env.AI hb)
 case fn=>exact hb.elim
 case fN=>cases h with
  |deep hd=>exact .deep hd
  |fN=>exact .fN
 case agg=>exact hb.elim
 case bC=>exact hb.elim
 case bL=>exact .bL x
def St.lim (st:St):wN:=⟨st.g.next,st.l.next⟩
def Key.lim (b:wN):Key->wN
 |.g _=>⟨b.g,0⟩
 |.l _=>b
open Go
def Jc (args:List V) (h:aC):Option (V×aC):=
 match args with
 |[.p (.g k) off,.i .i64 n]=>match h.get k with
  |some (.cs c)=>match c[off]? with
   |some (.i .i64 m)=>some (.i .i64 (IntKind.i64.wrap (m+n)),h.set k (.cs (c.set off (.i .i64 (IntKind.i64.wrap (m+n))))))
   |_=>none
  |_=>none
 |_=>none
def am6 (keys:Nat) (args:List V) (h:aC):Option (V×aC):=
 match args with
 |[.fn f [] [.p (.g k) off]]=>match Nat.beq f keys&&Nat.beq off 0 with
  |true=>match h.get k with
   |some (.cs c)=>match c[off]? with
    |some (.m (.g mk))=>match h.get mk with
     |some (.mp none [(.s x,_)])=>match decide (x.length<=9223372036854775807) with
      |true=>some (.sl none 1 [[.s x]],h)
      |false=>none
     |_=>none
    |_=>none
   |_=>none
  |false=>none
 |_=>none
def Pt:List UInt8->List UInt8->Int
 |[],[]=>0
 |[],_::_=>-1
 |_::_,[]=>1
 |a::r,b::q=>match Nat.blt a.toNat b.toNat with
  |true=>-1
  |false=>match Nat.blt b.toNat a.toNat with
   |true=>1
   |false=>Pt r q
open Go
def DR {α:Type} (x:R) (k:V->St->α):α:=
 match x with
 |(v,st)=>v.f3 fun v=>k v st
theorem Ly {α:Type} (v:V) (st:St) (k:V->St->α):DR (v,st) k=k v st:=by
 simp only [DR,V.Wb]
abbrev Bp (o:wT) (fr:Fr) (st:St):T R:=iB o fr st
theorem Lz {A:bK} {o:wT} {fr:Fr} {st:St} {K:R->Prop} (h:(Bp o fr st).wp A K):(step o fr st).wp A K:=AE h
noncomputable def T.sv {α:Type} (A:bK) (t:T α):(α->Prop)->Prop:=
 T.rec (motive:=fun _=>(α->Prop)->Prop) (fun a K=>K a) (fun c _ _ it ie K=>l6 c (it K) (ie K)) (fun o _ ih K=>yA o fun x=>ih x K) (fun o _ ih K=>yA o fun x=>ih x K) (fun o _ ih K=>yA o fun x=>ih x K)
  (fun o _ ih K=>yA o fun x=>ih x K) (fun o _ ih K=>yA o fun x=>Obj.fS x fun x=>ih x K) (fun o _ _ Kr ih K=>rA o (Kr K) fun x=>ih x K) (fun c _ ih K=>gJ c (ih K)) (fun kd n _ ih K=>fL kd n fun x=>ih x K) (fun _ ih K=>Rx fun r=>ih r K)
  (fun v u _ ih K=>BO v u (ih K)) (fun f aEo h _ ih K=>uL A f aEo h fun r h'=>ih r h' K) (fun _=>False) t
theorem T.QB {α:Type} (A:bK) (t:T α):∀ K,t.sv A K=t.sp A K:=by
 induction t with
 |ret a=>exact fun K=>rfl
 |ite c t e Uq Ur=>intro K;show l6 c (t.sv A K) (e.sv A K)=_;rw [Uq,Ur];rfl
 |elem o k ih=>intro K;show (yA o fun x=>(k x).sv A K)=_;simp only [ih];rfl
 |byte o k ih=>intro K;show (yA o fun x=>(k x).sv A K)=_;simp only [ih];rfl
 |gL o k ih=>intro K;show (yA o fun x=>(k x).sv A K)=_;simp only [ih];rfl
 |Kk o k ih=>intro K;show (yA o fun x=>(k x).sv A K)=_;simp only [ih];rfl
 |obj o k ih=>intro K;show (yA o fun x=>Obj.fS x fun x=>(k x).sv A K)=_;simp only [Obj.uT,ih];rfl
 |oV o n k Kr ih=>intro K;show (rA o (n.sv A K) fun x=>(k x).sv A K)=_;simp only [Kr,ih];rfl
 |mL c k ih=>intro K;show gJ c (k.sv A K)=_;rw [ih];rfl
 |wrap kd n k ih=>intro K;show (fL kd n fun x=>(k x).sv A K)=_;simp only [ih];rfl
 |any k ih=>intro K;show (Rx fun x=>(k x).sv A K)=_;simp only [ih];rfl
 |same v u k ih=>intro K;show BO v u (k.sv A K)=_;rw [ih];rfl
 |call f aEo h k ih=>intro K;show (uL A f aEo h fun r h'=>(k r h').sv A K)=_;simp only [ih];rfl
 |fail=>exact fun K=>rfl
abbrev afS:=Fr->St->T (Fr×St)
noncomputable def opV (o:cG) (ih:afS):afS:=fun fr st=>
 match o.guard with
 |none=>(Bp o.op fr st).bq fun x=>DR x fun v st=>fr.after o.dst v o.kill fun fr=>ih fr st
 |some (t,want)=>match fr.get t with
  |.b x=>match want with
   |true=>.ite x
    (fr.cut [t] fun r=>(Bp o.op ((t,.b true)::r) st).bq fun x=>DR x fun v st=>Fr.after ((t,.b true)::r) o.dst v o.kill fun fr=>ih fr st)
    (fr.cut [t] fun r=>Fr.after ((t,.b false)::r) o.dst (.bC []) o.kill fun fr=>ih fr st)
   |false=>.ite x
    (fr.cut [t] fun r=>Fr.after ((t,.b true)::r) o.dst (.bC []) o.kill fun fr=>ih fr st)
    (fr.cut [t] fun r=>(Bp o.op ((t,.b false)::r) st).bq fun x=>DR x fun v st=>Fr.after ((t,.b false)::r) o.dst v o.kill fun fr=>ih fr st)
  |.bC _=>fr.after o.dst (.bC []) o.kill fun fr=>ih fr st
  |_=>.fail
noncomputable def mV (l:List cG):afS:=
 List.rec (motive:=fun _=>afS) (fun fr st=>.ret (fr,st)) (fun o _ ih=>opV o ih) l
theorem I9 (o:cG) (l:List cG):mV (o::l)=opV o (mV l):=rfl
theorem pQ {A:bK} (hA:A.AZ):∀ (ops:List cG) (fr:Fr) (st:St) (K:Fr×St->Prop),(mV ops fr st).wp A K->(dM ops fr st).wp A K
 |[],fr,st,K,h=>h
 |o::rest,fr,st,K,h=>by
  have one:∀ {iW:Fr},((Bp o.op iW st).bq fun x=>DR x fun v st=>iW.after o.dst v o.kill fun fr=>mV rest fr st).wp A K->((step o.op iW st).bind fun x=>match x with
   |(v,st)=>iW.after o.dst v o.kill fun fr=>dM rest fr st).wp A K:=by
   intro iW h
   rw [T.Gt,T.wp_bind] at h
   rw [T.wp_bind]
   refine Lz ?_
   revert h
   refine T.wp_mono hA ?_
   rintro ⟨v,st⟩ h
   dsimp only at h ⊢
   rw [Ly,Fr.bW] at h
   rw [Fr.bW]
   exact pQ hA rest _ _ K h
  have two:∀ {iW:Fr},(iW.after o.dst (.bC []) o.kill fun fr=>mV rest fr st).wp A K->(iW.after o.dst (.bC []) o.kill fun fr=>dM rest fr st).wp A K:=by
   intro iW h
   rw [Fr.bW] at h ⊢
   exact pQ hA rest _ _ K h
  rw [I9] at h
  obtain ⟨dst,op,g,kill⟩:=o
  cases g with
  |none=>exact one h
  |some q=>
   obtain ⟨t,want⟩:=q
   simp only [opV] at h
   simp only [dM]
   generalize fr.get t=v at h ⊢
   cases v<;>(try exact h)
   case b x=>
    cases want
    · refine ⟨fun hc=>?_,fun hc=>?_⟩
      · have h:=h.1 hc
        rw [Fr.b8] at h ⊢
        exact two h
      · have h:=h.2 hc
        rw [Fr.b8] at h ⊢
        exact one h
    · refine ⟨fun hc=>?_,fun hc=>?_⟩
      · have h:=h.1 hc
        rw [Fr.b8] at h ⊢
        exact one h
      · have h:=h.2 hc
        rw [Fr.b8] at h ⊢
        exact two h
   case bC vs=>exact two h
abbrev QC:=List aO->Fr->St->T (Fr×St)
noncomputable def akC (d:aO) (ih:QC):QC:=fun done fr st=>rJ d.o.guard fr
 (fun fr=>(Bp d.o.op fr st).bq fun x=>DR x fun v st=>fr.after d.o.dst v [] fun fr=>recheck d.re done fr st (ih (d::done) fr st))
 (fun fr=>fr.after d.o.dst (.bC []) [] fun fr=>ih (d::done) fr st)
noncomputable def LA (l:List aO):QC:=
 List.rec (motive:=fun _=>QC) (fun _ fr st=>.ret (fr,st)) (fun d _ ih=>akC d ih) l
theorem Pq (o:aO) (l:List aO):LA (o::l)=akC o (LA l):=rfl
theorem DS {A:bK} (hA:A.AZ):∀ (ds done:List aO) (fr:Fr) (st:St) (K:Fr×St->Prop),(LA ds done fr st).wp A K->(gD done ds fr st).wp A K
 |[],done,fr,st,K,h=>h
 |d::rest,done,fr,st,K,h=>by
  rw [Pq] at h
  simp only [akC] at h
  simp only [gD]
  refine yZ (fun fr h=>?_) (fun fr h=>?_) h
  · rw [T.Gt,T.wp_bind] at h
    rw [T.wp_bind]
    refine Lz ?_
    refine T.wp_mono hA ?_ h
    rintro ⟨v,st⟩ h
    dsimp only at h ⊢
    rw [Ly,Fr.bW] at h
    rw [Fr.bW]
    exact fZ hA (fun h=>DS hA rest _ _ _ K h) h
  · rw [Fr.bW] at h ⊢
    exact DS hA rest _ _ _ K h
abbrev Wl:=(Ex->Fr->St->Prop)->Fr->St->Prop
structure akD (A:bK) (b:AC) (ib:Wl) (Q:Ex->Fr->St->Prop) (fr:Fr) (st:St):Prop where
 h:BP (fun R=>ib (rW R Q)) fr st
noncomputable def spV (A:bK) (c:AC):Wl:=
 AC.rec (motive:=fun _=>Wl) (fun Q fr st=>Q .normal fr st) (fun ops Q fr st=>(mV ops fr st).sv A (pE Q)) (fun ds kill Q fr st=>((LA ds [] fr st).bq (Av kill)).sv A (pE Q))
  (fun _ _ ia ib Q fr st=>ia (rW (ib Q) Q) fr st)
  (fun c _ _ ia ib Q fr st=>match c.ev fr with
    |.b x=>l6 x (ia Q fr st) (ib Q fr st)
    |_=>False)
  (fun id _ ib Q fr st=>ib (jD id Q) fr st) (fun b ib Q fr st=>akD A b ib Q fr st) (fun id Q fr st=>Q (.exit id) fr st) (fun Q fr st=>Q .ret fr st) (fun _ _ _=>False) c
theorem Wm (A:bK) (c:bH) (a b:AC) (Q:Ex->Fr->St->Prop) (fr:Fr) (st:St):spV A (.cond c a b) Q fr st=match c.ev fr with
 |.b x=>l6 x (spV A a Q fr st) (spV A b Q fr st)
 |_=>False:=rfl
theorem uU {A:bK} (hA:A.AZ):∀ (c:AC) (Q Q':Ex->Fr->St->Prop) (fr:Fr) (st:St),spV A c Q fr st->(∀ e fr st,Q e fr st->Q' e fr st)->rX A c Q' fr st
 |.skip,Q,Q',fr,st,h,hq=>hq _ _ _ h
 |.EF ops,Q,Q',fr,st,h,hq=>by
  have h:(mV ops fr st).sv A (pE Q):=h
  rw [T.QB] at h
  exact T.wp_mono hA (fun ⟨_,_⟩ h=>hq _ _ _ h) (pQ hA ops fr st _ (T.BQ hA _ _ h))
 |.BZ ds kill,Q,Q',fr,st,h,hq=>by
  refine T.wp_mono hA (fun ⟨_,_⟩ h=>hq _ _ _ h) (?_:T.wp A _ (pE Q))
  have h:((LA ds [] fr st).bq (Av kill)).sv A (pE Q):=h
  rw [T.QB,T.Gt] at h
  have h:=T.BQ hA _ _ h
  rw [T.wp_bind] at h ⊢
  exact DS hA _ _ _ _ _ h
 |.seq a b,Q,Q',fr,st,h,hq=>by
  refine uU hA a _ _ fr st h ?_
  intro e fr st h
  cases e with
  |normal=>exact uU hA b _ _ fr st h hq
  |exit id=>exact hq _ _ _ h
  |ret=>exact hq _ _ _ h
 |.cond c a b,Q,Q',fr,st,h,hq=>by
  rw [Wm] at h
  simp only [rX]
  split at h
  · rename_i x hx
    rw [hx]
    exact ⟨fun hc=>uU hA a _ _ _ _ (h.t hc) hq,fun hc=>uU hA b _ _ _ _ (h.f hc) hq⟩
  · exact h.elim
 |.bI id b,Q,Q',fr,st,h,hq=>by
  refine uU hA b _ _ fr st h ?_
  intro e fr st h
  cases e with
  |normal=>exact hq _ _ _ h
  |exit ER=>
   simp only [jD] at h ⊢
   split
   · rename_i hi;rw [if_pos hi] at h;exact hq _ _ _ h
   · rename_i hi;rw [if_neg hi] at h;exact hq _ _ _ h
  |ret=>exact hq _ _ _ h
 |.loop b,Q,Q',fr,st,h,hq=>by
  intro R hR
  refine h.h.h R fun fr bV st hl hx=>hR fr bV st hl ?_
  refine uU hA b _ _ bV st hx ?_
  intro e fr st h
  cases e with
  |normal=>exact h
  |exit id=>exact hq _ _ _ h
  |ret=>exact hq _ _ _ h
 |.exit id,Q,Q',fr,st,h,hq=>hq _ _ _ h
 |.ret,Q,Q',fr,st,h,hq=>hq _ _ _ h
 |.no,_,_,_,_,h,_=>h.elim
end Go.Eng
