/-
Heaps: what is found behind a push, a turn, a removal.
-/
import Derived.Test.YtdjbjnnfmkoceaaGreatEngSym
import Derived.Test.YtdjbjnnfmkoceaaGreatX05
set_option linter.unusedVariables false
set_option linter.unusedSimpArgs false
namespace Go.Eng
theorem aA.gD {n m:Nat} (h:m≠n) (x:Obj):∀ l:List (Nat×Obj),aA.find (aA.rF l n x) m=aA.find l m
 |[]=>rfl
 |(k,o)::r=>by
  simp only [aA.rF]
  by_cases hk:k=n
  · rw [if_pos hk]
    simp only [aA.find]
    rw [if_neg (by rw [hk];exact fun e=>h e.symm),if_neg (by rw [hk];exact fun e=>h e.symm)]
  · rw [if_neg hk]
    simp only [aA.find]
    rw [aA.gD h x r]
theorem aA.qA {n:Nat} (x:Obj):∀ {l:List (Nat×Obj)} {o:Obj},aA.find l n=some o->aA.find (aA.rF l n x) n=some x
 |[],o,h=>by simp [aA.find] at h
 |(k,o')::r,o,h=>by
  simp only [aA.rF]
  by_cases hk:k=n
  · rw [if_pos hk];simp [aA.find,hk]
  · rw [if_neg hk]
    simp only [aA.find,if_neg hk] at h ⊢
    exact aA.qA x h
theorem aA.nW {n m:Nat} (h:m≠n):∀ l:List (Nat×Obj),aA.find (aA.del l n) m=aA.find l m
 |[]=>rfl
 |(k,o)::r=>by
  simp only [aA.del]
  by_cases hk:k=n
  · rw [if_pos hk,aA.nW h r]
    simp only [aA.find]
    rw [if_neg (by rw [hk];exact fun e=>h e.symm)]
  · rw [if_neg hk]
    simp only [aA.find]
    rw [aA.nW h r]
theorem aA.dM (h:aA) (o:Obj):(h.push o).get h.next=some o:=by simp [aA.push,aA.get,aA.find]
theorem aA.uT {h:aA} {o:Obj} {n:Nat} (hn:n≠h.next):(h.push o).get n=h.get n:=by
 simp only [aA.push,aA.get,aA.find]
 rw [if_neg fun e=>hn e.symm]
theorem aA.dK {h:aA} {o o':Obj} {n:Nat} (hn:h.get n=some o'):(h.set n o).get n=some o:=aA.qA o hn
theorem aA.yI {h:aA} {o:Obj} {n m:Nat} (hn:m≠n):(h.set n o).get m=h.get m:=aA.gD hn o _
theorem aA.qB {h:aA} {n m:Nat} (hn:m≠n):(h.remove n).get m=h.get m:=aA.nW hn _
theorem aA.gp {h:aA} {o:Obj} {n:Nat} {x:Obj} (hn:n≠h.next) (hx:h.get n=some x):(h.push o).get n=some x:=by rw [aA.uT hn];exact hx
theorem aA.gs {h:aA} {o:Obj} {n m:Nat} {x:Obj} (hn:m≠n) (hx:h.get m=some x):(h.set n o).get m=some x:=by rw [aA.yI hn];exact hx
theorem aA.gr {h:aA} {n m:Nat} {x:Obj} (hn:m≠n) (hx:h.get m=some x):(h.remove n).get m=some x:=by rw [aA.qB hn];exact hx
structure aA.cF (but:Nat->Prop) (h h':aA):Prop where
 next:h.next<=h'.next
 same:∀ n,n<h.next->¬but n->h'.get n=h.get n
theorem aA.cF.refl (b:Nat->Prop) (h:aA):aA.cF b h h:=⟨Nat.le_refl _,fun _ _ _=>rfl⟩
theorem aA.cF.trans {b:Nat->Prop} {h1 h2 h3:aA} (a:aA.cF b h1 h2) (c:aA.cF b h2 h3):aA.cF b h1 h3:=
 ⟨Nat.le_trans a.next c.next,fun n hn hb=>(c.same n (Nat.lt_of_lt_of_le hn a.next) hb).trans (a.same n hn hb)⟩
theorem aA.cF.push {b:Nat->Prop} {h h':aA} (a:aA.cF b h h') (o:Obj):aA.cF b h (h'.push o):=
 ⟨Nat.le_succ_of_le a.next,fun n hn hb=>(aA.uT (by have:=a.next;omega)).trans (a.same n hn hb)⟩
theorem aA.cF.set {b:Nat->Prop} {h h':aA} (a:aA.cF b h h') {k:Nat} (hk:b k\/h.next<=k) (o:Obj):aA.cF b h (h'.set k o):=
 ⟨a.next,fun n hn hb=>(aA.yI (by rintro rfl;rcases hk with hk|hk;exact hb hk;omega)).trans (a.same n hn hb)⟩
theorem aA.cF.remove {b:Nat->Prop} {h h':aA} (a:aA.cF b h h') {k:Nat} (hk:b k\/h.next<=k):aA.cF b h (h'.remove k):=
 ⟨a.next,fun n hn hb=>(aA.qB (by rintro rfl;rcases hk with hk|hk;exact hb hk;omega)).trans (a.same n hn hb)⟩
theorem aA.cF.mono {b b':Nat->Prop} {h h':aA} (a:aA.cF b h h') (hb:∀ n,n<h.next->b n->b' n):aA.cF b' h h':=
 ⟨a.next,fun n hn Q2=>a.same n hn fun h=>Q2 (hb n hn h)⟩
open Go
theorem SB {α δ:Type} (n:α) (k:δ->α):aZ none n k=n:=rfl
theorem SC {α δ:Type} (x:δ) (n:α) (k:δ->α):aZ (some x) n k=k x:=rfl
theorem Z4 (fr:Fr):aV.mZ fr none=none:=rfl
theorem Rn (fr:Fr) (w:aV):aV.mZ fr (some w)=some (w.ev fr):=rfl
section
variable {f:Fc} {fr:Fr} {r:Rz} {A:aX} {rf:Rf} {m:SM} {st:St} {k:Kz} {P:R->Prop}
theorem op_ok (hf:n0 f fr) (hr:r≠.none) (hA:Ai rf A) (hs:eC m st) (hP:∀ v m' aR,eC m' aR->k v m'=r->P (v,aR)) (o:pQ) (h:(jI o).run rf f m k=r):(step o fr st).wp A P:=by
 have ev:=rA hf
 have wH:=GI hf
 have mZ:=O6 hf
 cases o with
 |mv x=>
  replace h:vK (fun v=>k v m) ((cC x).run f)=r:=h
  rw [DK,ev] at h
  exact hP _ _ _ hs h
 |IU x=>
  replace h:vK (fun v=>k v m) ((cC x).run f)=r:=h
  rw [DK,ev] at h
  exact hP _ _ _ hs h
 |pick c a d=>
  replace h:vB .none (fun b=>aL b (vK (fun v=>k v m) ((cC a).run f)) (vK (fun v=>k v m) ((cC d).run f))) ((cC c).run f)=r:=h
  simp only [DK,ev] at h
  obtain ⟨b,hv,h⟩:=FM h hr
  simp only [step,hv]
  cases b
  · exact rO rfl (hP _ _ _ hs h)
  · exact uH rfl (hP _ _ _ hs h)
 |alloc g z=>
  replace h:m.push g (.cs z) (fun key st=>k (.p key 0) st)=r:=h
  obtain ⟨m',h,iA⟩:=push_ok hs h
  exact hP _ _ _ iA h
 |box g x=>
  replace h:vC .none (fun cs=>asks (FG g cs) fun c=>m.push g (.cs c) fun key st=>k (.p key 0) st) ((cC x).run f)=r:=h
  rw [ev] at h
  obtain ⟨h1,h⟩:=B3 h hr
  obtain ⟨c,h2,h⟩:=bA h hr
  rw [GF] at h2
  obtain ⟨m',h,iA⟩:=push_ok hs h
  simp only [step,h1,h2,T.opt]
  exact hP _ _ _ iA h
 |IW z ps=>
  obtain ⟨cs,h1,h⟩:=yR hf hr _ _ _ h
  simp only [step,h1,T.opt]
  exact hP _ _ _ hs h
 |IX md sz len z ps=>
  obtain ⟨es,h1,h⟩:=yS hf hr _ _ _ _ h
  rw [wS] at h1
  simp only [step,h1,T.opt]
  exact newSl_ok hr hs h hP
 |load n a=>
  replace h:vP .none (fun key off=>Vr m key fun c=>asks (Gz c off n) fun v=>k v m) (fun key sz ix off=>qY m key sz fun es=>asks (fU es ix) fun e=>asks (Gz e off n) fun v=>k v m) (fun cs off=>asks (Gz cs off n) fun v=>k v m) ((cC a).run f)=r:=h
  simp only [ev,B0,dS] at h
  replace h:=B2 h hr;rcases h with ⟨key,off,hv,h⟩|⟨key,sz,ix,off,hv,h⟩|⟨cs,off,hv,h⟩
  · obtain ⟨c,h1,h⟩:=GH hs h hr
    obtain ⟨v,h2,h⟩:=bA h hr
    simp only [step,hv]
    refine ⟨_,h1,?_⟩
    simp only [h2,T.opt]
    exact hP _ _ _ hs h
  · obtain ⟨es,h1,h⟩:=iX hs h hr
    obtain ⟨e,h2,h⟩:=bA h hr
    obtain ⟨v,h3,h⟩:=bA h hr
    simp only [step,hv]
    refine ⟨_,h1,?_⟩
    dsimp only
    rw [if_pos rfl]
    refine ⟨_,h2,?_⟩
    simp only [h3,T.opt]
    exact hP _ _ _ hs h
  · obtain ⟨v,h2,h⟩:=bA h hr
    simp only [step,hv,h2,T.opt]
    exact hP _ _ _ hs h
 |store n a x=>
  replace h:vC .none (fun cs=>aU (Nat.beq (bY cs) n) (vP .none (fun key off=>asks (FG (wA key) cs) fun vs=>Vr m key fun c=>aU (Ba c off n) (spell (mM c off vs) fun c=>m.set key (.cs c) fun st=>k (.bO []) st))
   (fun key sz ix off=>asks (FG (wA key) cs) fun vs=>qY m key sz fun es=>asks (fU es ix) fun e=>aU (Ba e off n) (spell (mM e off vs) fun e=>spell (HO es ix e) fun es=>m.set key (.arr sz es) fun st=>k (.bO []) st)) (fun _ _=>.none) ((cC a).run f))) ((cC x).run f)=r:=h
  simp only [ev,GF,pH,dS,dA,BZ,BY] at h
  obtain ⟨h1,h⟩:=B3 h hr
  obtain ⟨h2,h⟩:=aI h hr
  rw [bE,cZ,decide_eq_true_eq] at h2
  simp only [step,if_pos (And.intro h1 h2)]
  have hl:∀ {g:Bool} {l vs:List V},lJ g l=some vs->vs.length=l.length:=by
   intro g l vs hg
   cases g with
   |false=>cases hg;rfl
   |true=>
    induction l generalizing vs with
    |nil=>cases hg;rfl
    |cons a q ih=>
     simp only [lJ,dI] at hg ih
     cases hp:a.pass with
     |none=>rw [hp] at hg;cases hg
     |some y=>
      cases hq:dI q with
      |none=>rw [hp,hq] at hg;cases hg
      |some z=>rw [hp,hq] at hg;cases hg;simp [ih hq]
  replace h:=B2 h hr;rcases h with ⟨key,off,hv,h⟩|⟨key,sz,ix,off,hv,h⟩|⟨cs,off,hv,h⟩
  · obtain ⟨vs,h3,h⟩:=bA h hr
    obtain ⟨c,h4,h⟩:=GH hs h hr
    obtain ⟨h5,h⟩:=aI h hr
    rw [<-h2,<-hl h3,DN] at h5
    obtain ⟨m',h,iA⟩:=set_ok hs h4 h
    simp only [hv,h3,T.opt]
    refine ⟨_,h4,?_⟩
    simp only [h5]
    exact hP _ _ _ iA h
  · obtain ⟨vs,h3,h⟩:=bA h hr
    obtain ⟨es,h4,h⟩:=iX hs h hr
    obtain ⟨e,h5,h⟩:=bA h hr
    obtain ⟨h6,h⟩:=aI h hr
    rw [<-h2,<-hl h3,DN] at h6
    obtain ⟨m',h,iA⟩:=set_ok hs h4 h
    simp only [hv,h3,T.opt]
    refine ⟨_,h4,?_⟩
    dsimp only
    rw [if_pos rfl]
    refine ⟨_,h5,?_⟩
    simp only [h6]
    exact hP _ _ _ iA h
  · exact absurd h.symm hr
 |rG x=>
  replace h:vQ .none (fun a o=>k (.p a o) m) (fun a z i o=>k (.pa a z i o) m) (fun c o=>k (.pc c o) m) (fun f a c=>k (.fn f a c) m) ((cC x).run f)=r:=h
  rw [ev] at h
  replace h:=Sy h hr;rcases h with ⟨_,_,hv,h⟩|⟨_,_,_,_,hv,h⟩|⟨_,_,hv,h⟩|⟨_,_,_,hv,h⟩
  all_goals simp only [step,hv];exact hP _ _ _ hs h
 |bin op x y=>
  replace h:Vo .none (fun kd a=>eG .none (fun s0 c=>(Sq op).run kd s0 a c fun v=>k v m) ((cC y).run f)) (fun a=>jD .none (fun c=>(Sr op).run a c fun v=>k v m) ((cC y).run f)) ((cC x).run f)=r:=h
  simp only [ev] at h
  replace h:=O2 h hr;rcases h with ⟨kd,a,hv,h⟩|⟨a,hv,h⟩
  · obtain ⟨s0,c,hw,h⟩:=lF h hr
    simp only [step,hv,hw]
    exact iBin_ok hr h fun v hk=>hP _ _ _ hs hk
  · obtain ⟨c,hw,h⟩:=tS h hr
    simp only [step,hv,hw]
    exact sBin_ok hr h fun v hk=>hP _ _ _ hs hk
 |N8 row ks neg x y=>
  replace h:Kl row ((cC x).run f) (fun cs=>Kl row ((cC y).run f) fun ds=>asks (sK ks cs ds) fun r=>k (.b (aL neg (gF r) r)) m)=r:=h
  simp only [ev,uV] at h
  obtain ⟨cs,h1,h⟩:=GG h hr
  obtain ⟨ds,h2,h⟩:=GG h hr
  obtain ⟨b,h3,h⟩:=bA h hr
  simp only [step,h1,h2,h3,T.opt]
  cases neg
  · exact hP _ _ _ hs h
  · exact hP _ _ _ hs (by rw [<-h];show k (.b (!b)) m=k (.b (gF b)) m;rw [eE])
 |RH neg x y=>
  replace h:OX neg ((cC x).run f) ((cC y).run f) (fun v=>k v m)=r:=h
  simp only [ev] at h
  exact nil2_ok hr h fun v hk=>hP _ _ _ hs hk
 |un op x=>
  cases op with
  |neg=>
   replace h:eG .none (fun kd n=>iK kd (kd.wrap (0 - n)) fun v=>k v m) ((cC x).run f)=r:=h
   simp only [ev,lW] at h
   obtain ⟨kd,n,hv,h⟩:=lF h hr
   simp only [step,hv]
   exact l5 (hP _ _ _ hs h)
  |not=>
   replace h:vB .none (fun b=>k (.b (gF b)) m) ((cC x).run f)=r:=h
   simp only [ev,eE] at h
   obtain ⟨b,hv,h⟩:=FM h hr
   simp only [step,hv]
   exact hP _ _ _ hs h
  |xor=>exact absurd h.symm hr
  |plus=>exact absurd h.symm hr
 |N9 kd x=>
  replace h:eG .none (fun _ n=>iK kd (wr kd n) fun v=>k v m) ((cC x).run f)=r:=h
  simp only [ev,lW,DJ] at h
  obtain ⟨j,n,hv,h⟩:=lF h hr
  simp only [step,hv]
  exact l5 (hP _ _ _ hs h)
 |Oa x=>
  replace h:jD .none (fun y=>k (.s y) m) ((cC x).run f)=r:=h
  simp only [ev] at h
  obtain ⟨y,hv,h⟩:=tS h hr
  simp only [step,hv]
  exact hP _ _ _ hs h
 |IY md x=>
  replace h:jD .none (fun y=>yL md 1 (Kj y) m k) ((cC x).run f)=r:=h
  simp only [ev,B1] at h
  obtain ⟨y,hv,h⟩:=tS h hr
  simp only [step,hv]
  exact newSl_ok hr hs h hP
 |Ob x=>
  replace h:vL .none (fun _=>.none) .none (fun t sz es=>asks t fun key=>OV m key (k (.sl (some key) sz es) m)) (fun key sz off len=>asks (m.look key) fun o=>A8 (fun _=>.none) (fun z _=>aU (Nat.beq z 1) (k (.ms key sz off len) m)) .none (fun _ _=>.none) o) ((cC x).run f)=r:=h
  simp only [ev] at h
  replace h:=kC h hr;rcases h with ⟨y,hv,h⟩|⟨hv,h⟩|⟨t,z,es,hv,h⟩|⟨key,z,off,len,hv,h⟩
  · exact absurd h.symm hr
  · exact absurd h.symm hr
  · obtain ⟨key,rfl,h⟩:=bA h hr
    obtain ⟨h1,h⟩:=DO hs h hr
    simp only [step,hv]
    exact ⟨_,h1,hP _ _ _ hs h⟩
  · obtain ⟨o,h1,h⟩:=bA h hr
    have h1:=look_ok hs h1
    cases o with
    |arr z2 es=>
     obtain ⟨h2,h⟩:=aI h hr
     rw [cZ,decide_eq_true_eq] at h2
     simp only [step,hv]
     refine ⟨_,h1,?_⟩
     dsimp only
     rw [if_pos h2]
     exact hP _ _ _ hs h
    |_=>exact absurd h.symm hr
 |Ga x=>
  replace h:qZ 1 m ((cC x).run f) (fun es=>asks (tK es) fun y=>k (.s y) m)=r:=h
  simp only [ev,tQ] at h
  show (eD 1 st (x.ev fr) fun es=>.CQ (bytesOf es) fun y=>.ret (.s y,st)).wp A P
  refine elems2_ok hr hs h fun es h=>?_
  obtain ⟨y,h1,h⟩:=bA h hr
  exact ⟨_,h1,hP _ _ _ hs h⟩
 |zL g cap=>
  replace h:(OW cap).run f (fun c=>k (.fn g [] c) m)=r:=h
  rw [GJ hf] at h
  exact hP _ _ _ hs h
 |uF g kd=>
  replace h:m.push g (.mp kd []) (fun key st=>k (.m key) st)=r:=h
  obtain ⟨m',h,iA⟩:=push_ok hs h
  exact hP _ _ _ iA h
 |CR md sz bytes z l c=>
  replace h:eG .none (fun _ a=>eG .none (fun _ d=>sJ a fun n=>sJ d fun n'=>aU (Nat.beq n n') (aU (yM n bytes) (yL md sz (FF n z) m k))) ((cC c).run f)) ((cC l).run f)=r:=h
  simp only [ev,wS,sM,cZ] at h
  obtain ⟨_,a,hv,h⟩:=lF h hr
  obtain ⟨_,d,hw,h⟩:=lF h hr
  obtain ⟨n,ha,h⟩:=kB h hr
  obtain ⟨n',hd,h⟩:=kB h hr
  obtain ⟨h1,h⟩:=aI h hr
  rw [decide_eq_true_eq] at h1
  rw [<-h1] at hd
  rw [ha] at hv
  rw [hd] at hw
  obtain ⟨h2,h⟩:=aI h hr
  simp only [step,hv,hw]
  refine ⟨by simp [h2],?_⟩
  rw [Int.toNat_natCast]
  exact newSl_ok hr hs h hP
 |pW x lo hi=>
  replace h:jD .none (fun y=>wB ((j7 hi).run f) (bY y) fun h=>wB ((j7 lo).run f) 0 fun l=>aU (Nat.ble l h) (aU (Nat.ble h (bY y)) (k (.s (iU (j6 y h) l)) m))) ((cC x).run f)=r:=h
  simp only [ev,mZ,bE,bZ,iW,j9] at h
  obtain ⟨y,hv,h⟩:=tS h hr
  obtain ⟨hh,e1,h⟩:=fW hr h
  obtain ⟨l,e2,h⟩:=fW hr h
  obtain ⟨h1,h⟩:=aI h hr
  obtain ⟨h2,h⟩:=aI h hr
  rw [decide_eq_true_eq] at h1 h2
  have e2:cL (aV.mZ fr lo) 0=some (l:Int):=e2
  simp only [step,hv,e1,e2,T.opt]
  refine ⟨by simp;omega,?_⟩
  simp only [Int.toNat_natCast]
  exact hP _ _ _ hs h
 |mY sz x lo hi mx=>
  cases mx with
  |some mo=>
   replace h:vL .none (fun _=>.none) .none (fun _ _ _=>.none) (fun key z off len=>aU (Nat.beq z sz) (wB ((j7 hi).run f) len fun h=>wB ((j7 lo).run f) 0 fun l=>qY m key sz fun es=>wB (some ((cC mo).run f)) 0 fun mx=>aU (Nat.ble l h) (aU (Nat.ble h mx) (aU (Nat.ble (Nat.add off mx) (bY es)) (k .a8 m))))) ((cC x).run f)=r:=h
   simp only [ev,mZ,bE,bZ,cZ] at h
   replace h:=kC h hr;rcases h with ⟨y,hv,h⟩|⟨hv,h⟩|⟨t,z,es,hv,h⟩|⟨key,z,off,len,hv,h⟩
   · exact absurd h.symm hr
   · exact absurd h.symm hr
   · exact absurd h.symm hr
   · obtain ⟨h1,h⟩:=aI h hr
     rw [decide_eq_true_eq] at h1
     subst h1
     obtain ⟨hh,e1,h⟩:=fW hr h
     obtain ⟨l,e2,h⟩:=fW hr h
     obtain ⟨es,h2,h⟩:=iX hs h hr
     obtain ⟨mx,e3,h⟩:=fW hr h
     obtain ⟨h3,h⟩:=aI h hr
     obtain ⟨h4,h⟩:=aI h hr
     obtain ⟨h5,h⟩:=aI h hr
     rw [decide_eq_true_eq] at h3 h4 h5
     have e2:cL (aV.mZ fr lo) 0=some (l:Int):=e2
     have e3:m6 (mo.ev fr)=some (mx:Int):=e3
     simp only [step,hv,if_true,e1,e2,T.opt]
     refine ⟨_,h2,?_⟩
     dsimp only
     rw [if_pos rfl]
     have h5:off+mx<=es.length:=h5
     simp only [e3]
     exact ⟨by simp;omega,hP _ _ _ hs h⟩
  |none=>
   replace h:vL .none (fun _=>.none) (wB ((j7 hi).run f) 0 fun h=>wB ((j7 lo).run f) 0 fun l=>aU (Nat.beq l 0) (aU (Nat.beq h 0) (k .bU m)))
    (fun t z es=>aU (Nat.beq z sz) (aZ hi (wB ((j7 lo).run f) 0 fun l=>aU (Nat.ble l (bY es)) (k (.sl t sz (iU es l)) m)) fun _=>wB ((j7 hi).run f) 0 fun h=>wB ((j7 lo).run f) 0 fun l=>aU (Nat.ble l h) (aU (Nat.ble h (bY es)) (k (.sl none sz (iU (j6 es h) l)) m))))
    (fun key z off len=>aU (Nat.beq z sz) (wB ((j7 hi).run f) len fun h=>wB ((j7 lo).run f) 0 fun l=>qY m key sz fun es=>aU (Nat.ble l h) (aU (Nat.ble (Nat.add off h) (bY es)) (k (.ms key sz (Nat.add off l) (Nat.sub h l)) m)))) ((cC x).run f)=r:=h
   simp only [ev,mZ,bE,bZ,cZ,iW,j9] at h
   replace h:=kC h hr;rcases h with ⟨y,hv,h⟩|⟨hv,h⟩|⟨t,z,es,hv,h⟩|⟨key,z,off,len,hv,h⟩
   · exact absurd h.symm hr
   · obtain ⟨hh,e1,h⟩:=fW hr h
     obtain ⟨l,e2,h⟩:=fW hr h
     obtain ⟨h1,h⟩:=aI h hr
     obtain ⟨h2,h⟩:=aI h hr
     rw [decide_eq_true_eq] at h1 h2
     have e1:cL (aV.mZ fr hi) 0=some (hh:Int):=e1
     have e2:cL (aV.mZ fr lo) 0=some (l:Int):=e2
     simp only [step,hv,e1,e2,T.opt]
     exact ⟨by simp;omega,hP _ _ _ hs h⟩
   · obtain ⟨h1,h⟩:=aI h hr
     rw [decide_eq_true_eq] at h1
     subst h1
     cases hi with
     |none=>
      rw [SB] at h
      obtain ⟨l,e2,h⟩:=fW hr h
      obtain ⟨h2,h⟩:=aI h hr
      rw [decide_eq_true_eq] at h2
      have e2:cL (aV.mZ fr lo) 0=some (l:Int):=e2
      simp only [step,hv,if_true,Z4,e2,T.opt]
      refine ⟨by simp;omega,?_⟩
      simp only [Int.toNat_natCast]
      exact hP _ _ _ hs h
     |some w=>
      rw [SC,Rn] at h
      obtain ⟨hh,e1,h⟩:=fW hr h
      obtain ⟨l,e2,h⟩:=fW hr h
      obtain ⟨h2,h⟩:=aI h hr
      obtain ⟨h3,h⟩:=aI h hr
      rw [decide_eq_true_eq] at h2 h3
      have e2:cL (aV.mZ fr lo) 0=some (l:Int):=e2
      have e1:m6 (w.ev fr)=some (hh:Int):=e1
      simp only [step,hv,if_true,Rn,e1,e2,T.opt]
      refine ⟨by simp;omega,?_⟩
      simp only [Int.toNat_natCast]
      exact hP _ _ _ hs h
   · obtain ⟨h1,h⟩:=aI h hr
     rw [decide_eq_true_eq] at h1
     subst h1
     obtain ⟨hh,e1,h⟩:=fW hr h
     obtain ⟨l,e2,h⟩:=fW hr h
     obtain ⟨es,h2,h⟩:=iX hs h hr
     obtain ⟨h3,h⟩:=aI h hr
     obtain ⟨h4,h⟩:=aI h hr
     rw [decide_eq_true_eq] at h3
     rw [decide_eq_true_eq] at h4
     have e2:cL (aV.mZ fr lo) 0=some (l:Int):=e2
     simp only [step,hv,if_true,e1,e2,T.opt]
     refine ⟨_,h2,?_⟩
     dsimp only
     rw [if_pos rfl]
     have h4:off+hh<=es.length:=h4
     refine ⟨by simp;omega,?_⟩
     simp only [Int.toNat_natCast]
     exact hP _ _ _ hs h
 |jS off x=>
  replace h:vP .none (fun a o=>k (.p a (Nat.add o off)) m) (fun a z i o=>k (.pa a z i (Nat.add o off)) m) (fun c o=>k (.pc c (Nat.add o off)) m) ((cC x).run f)=r:=h
  rw [ev] at h
  replace h:=B2 h hr;rcases h with ⟨_,_,hv,h⟩|⟨_,_,_,_,hv,h⟩|⟨_,_,hv,h⟩
  all_goals simp only [step,hv];exact hP _ _ _ hs h
 |Hf off n x=>
  replace h:vA .none (fun cs=>asks (Gz cs off n) fun v=>k v m) ((cC x).run f)=r:=h
  simp only [ev,B0] at h
  obtain ⟨cs,hv,h⟩:=KA h hr
  obtain ⟨v,h1,h⟩:=bA h hr
  simp only [step,hv,h1,T.opt]
  exact hP _ _ _ hs h
 |zM sz x i=>
  replace h:eG .none (fun _ n=>sJ n fun n=>vL .none (fun _=>.none) .none (fun _ z es=>aU (Nat.beq z sz) (asks (fU es n) fun e=>k (.pc e 0) m)) (fun a z off len=>aU (Nat.beq z sz) (aU (Nat.ble (Nat.succ n) len) (k (.pa a sz (Nat.add off n) 0) m))) ((cC x).run f)) ((cC i).run f)=r:=h
  simp only [ev,dS,cZ,bZ] at h
  obtain ⟨_,n,hv,h⟩:=lF h hr
  obtain ⟨n,rfl,h⟩:=kB h hr
  replace h:=kC h hr;rcases h with ⟨y,hw,h⟩|⟨hw,h⟩|⟨t,z,es,hw,h⟩|⟨key,z,off,len,hw,h⟩
  · exact absurd h.symm hr
  · exact absurd h.symm hr
  · obtain ⟨h1,h⟩:=aI h hr
    rw [decide_eq_true_eq] at h1
    obtain ⟨e,h2,h⟩:=bA h hr
    have hl:n<es.length:=by
     rcases Nat.lt_or_ge n es.length with h3|h3
     · exact h3
     · rw [List.getElem?_eq_none h3] at h2;cases h2
    simp only [step,hv,hw,if_pos h1]
    exact ⟨by simp only [kJ];simp;omega,_,by rw [Int.toNat_natCast];exact h2,hP _ _ _ hs h⟩
  · obtain ⟨h1,h⟩:=aI h hr
    rw [decide_eq_true_eq] at h1
    obtain ⟨h2,h⟩:=aI h hr
    rw [decide_eq_true_eq] at h2
    simp only [step,hv,hw,if_pos h1]
    refine ⟨by simp only [kJ];simp;omega,?_⟩
    rw [Int.toNat_natCast]
    exact hP _ _ _ hs h
 |zN len sz x i=>
  replace h:eG .none (fun _ n=>sJ n fun n=>aU (Nat.ble (Nat.succ n) len) (vP .none (fun a o=>k (.p a (Nat.add o (Nat.mul n sz))) m) (fun a z j o=>k (.pa a z j (Nat.add o (Nat.mul n sz))) m) (fun c o=>k (.pc c (Nat.add o (Nat.mul n sz))) m) ((cC x).run f))) ((cC i).run f)=r:=h
  simp only [ev,bZ] at h
  obtain ⟨_,n,hv,h⟩:=lF h hr
  obtain ⟨n,rfl,h⟩:=kB h hr
  obtain ⟨h1,h⟩:=aI h hr
  rw [decide_eq_true_eq] at h1
  simp only [step,hv]
  refine ⟨by simp only [kJ];simp;omega,?_⟩
  replace h:=B2 h hr;rcases h with ⟨_,_,hw,h⟩|⟨_,_,_,_,hw,h⟩|⟨_,_,hw,h⟩
  all_goals simp only [hw,Int.toNat_natCast];exact hP _ _ _ hs h
 |Od x i=>
  replace h:jD .none (fun y=>eG .none (fun _ n=>sJ n fun n=>asks (fU y n) fun c=>k (.i .u8 (.ofNat (u8N c))) m) ((cC i).run f)) ((cC x).run f)=r:=h
  simp only [ev,dS] at h
  obtain ⟨y,hv,h⟩:=tS h hr
  obtain ⟨_,n,hw,h⟩:=lF h hr
  obtain ⟨n,rfl,h⟩:=kB h hr
  obtain ⟨c,h1,h⟩:=bA h hr
  simp only [step,hv,hw]
  exact ⟨by simp,_,by rw [Int.toNat_natCast];exact h1,hP _ _ _ hs h⟩
 |IG len sz n x i=>
  replace h:vA .none (fun cs=>eG .none (fun _ j=>sJ j fun j=>aU (Nat.ble (Nat.succ j) len) (asks (Gz cs (Nat.mul j sz) n) fun v=>k v m)) ((cC i).run f)) ((cC x).run f)=r:=h
  simp only [ev,B0,bZ] at h
  obtain ⟨cs,hv,h⟩:=KA h hr
  obtain ⟨_,j,hw,h⟩:=lF h hr
  obtain ⟨j,rfl,h⟩:=kB h hr
  obtain ⟨h1,h⟩:=aI h hr
  rw [decide_eq_true_eq] at h1
  obtain ⟨v,h2,h⟩:=bA h hr
  simp only [step,hv,hw]
  refine ⟨by simp only [kJ];simp;omega,?_⟩
  have h2:cG cs (j*sz) n=some v:=h2
  simp only [Int.toNat_natCast,h2,T.opt]
  exact hP _ _ _ hs h
 |IZ kd z mm key ok=>
  replace h:aU (q7 kd ((cC key).run f)) (vM .none (k (aL ok (.bO [z,.b false]) z) m) (fun a=>Sp m a kd fun es=>aZ (BP ((cC key).run f) es) (k (aL ok (.bO [z,.b false]) z) m) fun v=>aL ok (k (.bO [v,.b true]) m) (k v m)) ((cC mm).run f))=r:=h
  simp only [ev,tP,Bc] at h
  obtain ⟨h1,h⟩:=aI h hr
  replace h:=yQ h hr;rcases h with ⟨hv,h⟩|⟨a,hv,h⟩
  · simp only [step,h1,hv]
    cases ok
    · exact wX rfl (hP _ _ _ hs h)
    · exact wX rfl (hP _ _ _ hs h)
  · obtain ⟨es,h2,h⟩:=B4 hs h hr
    simp only [step,h1,hv]
    refine ⟨_,h2,?_⟩
    dsimp only
    rw [if_pos rfl]
    cases hq:rI es (key.ev fr) with
    |none=>
     rw [hq] at h
     cases ok
     · exact wX rfl (hP _ _ _ hs h)
     · exact wX rfl (hP _ _ _ hs h)
    |some v=>
     rw [hq] at h
     cases ok
     · exact EY rfl (hP _ _ _ hs h)
     · exact EY rfl (hP _ _ _ hs h)
 |zO kd mm key v=>
  replace h:aU (q7 kd ((cC key).run f)) (vM .none .none (fun a=>Sp m a kd fun es=>vK (fun v=>asks (aL (wA a) (nY v) (some v)) fun u=>spell (GA ((cC key).run f) u es) fun es=>m.set a (.mp kd es) fun st=>k (.bO []) st) ((cC v).run f)) ((cC mm).run f))=r:=h
  simp only [ev,tP,DL,DK,dA,pH,sN] at h
  obtain ⟨h1,h⟩:=aI h hr
  replace h:=yQ h hr;rcases h with ⟨hv,h⟩|⟨a,hv,h⟩
  · exact absurd h.symm hr
  · obtain ⟨es,h2,h⟩:=B4 hs h hr
    obtain ⟨u,h3,h⟩:=bA h hr
    obtain ⟨m',h,iA⟩:=set_ok hs h2 h
    simp only [step,h1,hv]
    refine ⟨_,h2,?_⟩
    dsimp only
    rw [if_pos rfl]
    have h4:CS a.lH (v.ev fr)=some u:=by rw [<-h3];unfold CS;cases a.lH<;>rfl
    simp only [h4,T.opt]
    exact hP _ _ _ iA h
 |ext x i=>
  replace h:vT .none (fun vs=>asks (fU vs i) fun v=>k v m) ((cC x).run f)=r:=h
  simp only [ev,dS] at h
  obtain ⟨vs,hv,h⟩:=Sz h hr
  obtain ⟨v,h1,h⟩:=bA h hr
  simp only [step,hv,h1,T.opt]
  exact hP _ _ _ hs h
 |call g args=>
  replace h:asks (gV ((DF args).run f)) (fun vs=>DG rf g vs m k)=r:=h
  simp only [wH,kA] at h
  obtain ⟨vs,h1,h⟩:=bA h hr
  simp only [step,h1,T.opt]
  exact callK_ok hr hs hA h hP
 |pX g args=>
  replace h:vF .none (fun g first cap=>asks (gV (pV first (pV ((DF args).run f) cap))) fun vs=>DG rf g vs m k) ((cC g).run f)=r:=h
  simp only [ev,wH,kA,kR] at h
  obtain ⟨g',first,cap,hv,h⟩:=SA h hr
  obtain ⟨vs,h1,h⟩:=bA h hr
  rw [<-List.append_assoc] at h1
  simp only [step,hv,h1,T.opt]
  exact callK_ok hr hs hA h hP
 |zP x=>
  replace h:jD .none (fun y=>k (.i .i64 (.ofNat (bY y))) m) ((cC x).run f)=r:=h
  simp only [ev,bE] at h
  obtain ⟨y,hv,h⟩:=tS h hr
  simp only [step,hv]
  exact hP _ _ _ hs h
 |zQ x=>
  replace h:vL .none (fun _=>.none) (k (.i .i64 0) m) (fun _ _ es=>k (.i .i64 (.ofNat (bY es))) m) (fun _ _ _ n=>k (.i .i64 (.ofNat n)) m) ((cC x).run f)=r:=h
  simp only [ev,bE] at h
  replace h:=kC h hr;rcases h with ⟨y,hv,h⟩|⟨hv,h⟩|⟨t,z,es,hv,h⟩|⟨key,z,off,len,hv,h⟩
  · exact absurd h.symm hr
  all_goals simp only [step,hv];exact hP _ _ _ hs h
 |zR n=>exact hP _ _ _ hs h
 |zS x=>
  replace h:vM .none (k (.i .i64 0) m) (fun a=>asks (m.look a) fun o=>A8 (fun _=>.none) (fun _ _=>.none) .none (fun _ es=>k (.i .i64 (.ofNat (bY es))) m) o) ((cC x).run f)=r:=h
  simp only [ev,bE] at h
  replace h:=yQ h hr;rcases h with ⟨hv,h⟩|⟨a,hv,h⟩
  · simp only [step,hv]
    exact hP _ _ _ hs h
  · obtain ⟨o,h1,h⟩:=bA h hr
    have h1:=look_ok hs h1
    cases o with
    |mp z es=>
     simp only [step,hv]
     exact ⟨_,h1,hP _ _ _ hs h⟩
    |_=>exact absurd h.symm hr
 |rH max xs=>
  replace h:List.rec (motive:=fun _=>Rz) .none (fun v r _=>asks (W3 max r v) fun v=>k v m) ((DF xs).run f)=r:=h
  simp only [wH] at h
  cases hq:aV.wH fr xs with
  |nil=>rw [hq] at h;exact absurd h.symm hr
  |cons v q=>
   rw [hq] at h
   obtain ⟨w,h1,h⟩:=bA (k:=fun v=>k v m) h hr
   rw [Ky] at h1
   simp only [step,hq,h1,T.opt]
   exact hP _ _ _ hs h
 |append md sz bytes s x=>
  replace h:qZ sz m ((cC x).run f) (fun new=>BO md sz bytes m ((cC s).run f) new k)=r:=h
  simp only [ev] at h
  exact elems2_ok hr hs h fun es h=>append2_ok hr hs h hP
 |copy sz d x=>
  replace h:qZ sz m ((cC x).run f) (fun src=>vL .none (fun _=>.none) .none (fun _ _ _=>.none) (fun key z off len=>aU (Nat.beq z sz) (asks (yK (wA key) (j6 src len)) fun ds=>qY m key sz fun es=>aU (Nat.ble (Nat.add off len) (bY es)) (Ah (pV (j6 es off) ds) (iU es (Nat.add off (bY ds))) fun es=>m.set key (.arr sz es) fun st=>k (.i .i64 (.ofNat (bY ds))) st))) ((cC d).run f))=r:=h
  simp only [ev,cZ,bZ,bE,tN,pH,j9,iW,kR,pE] at h
  show (eD sz st (x.ev fr) fun src=>match d.ev fr with
   |.ms k cS off len=>if cS=sz then .eU (dF k.lH (src.take len)) fun ds=>.obj (st.get k) fun o=>match o with
     |.arr dB es=>if dB=sz then
       .jE (decide (off+len<=es.length))<|.ret (.i .i64 (ds.length:Nat),st.set k (.arr sz (es.take off++ds++es.drop (off+ds.length))))
      else .fail
     |_=>.fail
    else .fail
   |_=>.fail).wp A P
  refine elems2_ok hr hs h fun src h=>?_
  replace h:=kC h hr;rcases h with ⟨y,hv,h⟩|⟨hv,h⟩|⟨t,z,es,hv,h⟩|⟨key,z,off,len,hv,h⟩
  · exact absurd h.symm hr
  · exact absurd h.symm hr
  · exact absurd h.symm hr
  · obtain ⟨h1,h⟩:=aI h hr
    rw [decide_eq_true_eq] at h1
    obtain ⟨ds,h2,h⟩:=bA h hr
    obtain ⟨es,h3,h⟩:=iX hs h hr
    obtain ⟨h4,h⟩:=aI h hr
    obtain ⟨m',h,iA⟩:=set_ok hs h3 h
    simp only [hv,if_pos h1]
    refine ⟨_,h2,_,h3,?_⟩
    dsimp only
    rw [if_pos rfl]
    exact ⟨h4,hP _ _ _ iA h⟩
 |delete kd mm key=>
  replace h:aU (q7 kd ((cC key).run f)) (vM .none (k (.bO []) m) (fun a=>Sp m a kd fun es=>spell (GB ((cC key).run f) es) fun es=>m.set a (.mp kd es) fun st=>k (.bO []) st) ((cC mm).run f))=r:=h
  simp only [ev,tP,DM,dA] at h
  obtain ⟨h1,h⟩:=aI h hr
  replace h:=yQ h hr;rcases h with ⟨hv,h⟩|⟨a,hv,h⟩
  · simp only [step,h1,hv]
    exact hP _ _ _ hs h
  · obtain ⟨es,h2,h⟩:=B4 hs h hr
    obtain ⟨m',h,iA⟩:=set_ok hs h2 h
    simp only [step,h1,hv]
    refine ⟨_,h2,?_⟩
    dsimp only
    rw [if_pos rfl]
    exact hP _ _ _ iA h
 |clear sz z x=>
  replace h:vL .none (fun _=>.none) (k (.bO []) m) (fun _ _ _=>.none) (fun key zz off len=>aU (Nat.beq zz sz) (qY m key sz fun es=>aU (Nat.ble (Nat.add off len) (bY es)) (Ah (pV (j6 es off) (FF len z)) (iU es (Nat.add off len)) fun es=>m.set key (.arr sz es) fun st=>k (.bO []) st))) ((cC x).run f)=r:=h
  simp only [ev,cZ,bZ,bE,j9,iW,kR,pE,wS] at h
  replace h:=kC h hr;rcases h with ⟨y,hv,h⟩|⟨hv,h⟩|⟨t,zz,es,hv,h⟩|⟨key,zz,off,len,hv,h⟩
  · exact absurd h.symm hr
  · simp only [step,hv]
    exact hP _ _ _ hs h
  · exact absurd h.symm hr
  · obtain ⟨h1,h⟩:=aI h hr
    rw [decide_eq_true_eq] at h1
    obtain ⟨es,h3,h⟩:=iX hs h hr
    obtain ⟨h4,h⟩:=aI h hr
    obtain ⟨m',h,iA⟩:=set_ok hs h3 h
    simp only [step,hv,if_pos h1]
    refine ⟨_,h3,?_⟩
    dsimp only
    rw [if_pos rfl]
    exact ⟨h4,hP _ _ _ iA h⟩
 |no=>exact absurd h.symm hr
end
open Go
theorem pJ {a b:Key} (h:tL a b=true):a=b:=by
 cases a<;>cases b<;>first
  |cases h
  |(rename_i n m;have:=Nat.eq_of_beq_eq_true (show Nat.beq n m=true from h);rw [this])
theorem SD {v u:V} (h:Uh v u=true):v=u:=by
 cases v with
 |b x=>cases u<;>first|cases h|(rename_i y;cases x<;>cases y<;>first|rfl|cases h)
 |i k n=>
  cases u<;>first
   |cases h
   |(rename_i j m
     replace h:aL (lA k j) (HP n m) false=true:=h
     rw [bM,fG,nZ] at h
     split at h
     · rename_i h1;rw [of_decide_eq_true h1,of_decide_eq_true h]
     · cases h)
 |s a=>cases u<;>first|cases h|(rename_i b;replace h:BN a b=true:=h;rw [lD] at h;rw [eq_of_beq h])
 |p a o=>
  cases u<;>first
   |cases h
   |(rename_i b j
     replace h:aL (tL a b) (Nat.beq o j) false=true:=h
     rw [bM] at h
     split at h
     · rename_i h1;rw [pJ h1,Nat.eq_of_beq_eq_true h]
     · cases h)
 |_=>exact V.beq_eq h
section
variable {A:aX}
theorem n0.put {f:Fc} {fr:Fr} (hf:n0 f fr) {r:Rz} (hr:r≠.none) {dst:Option Nat} {kill:List Nat} {v:V} {k:Fc->Rz} (h:(lB dst kill).run v f k=r):kill=[]/\∃ f',n0 f' (fr.next dst v kill)/\k f'=r:=by
 cases kill with
 |cons x q=>exact absurd h.symm hr
 |nil=>
  refine ⟨rfl,?_⟩
  cases dst with
  |none=>exact ⟨f,hf,h⟩
  |some d=>
   obtain ⟨f',h1,h2⟩:=BW (n:=d) h hr
   refine ⟨f',fun n=>?_,h1⟩
   rw [h2 n]
   simp only [Fr.next,Fr.get]
   by_cases hd:n=d
   · rw [if_pos hd,if_pos hd.symm]
   · rw [if_neg hd,if_neg (Ne.symm hd)];exact hf n
theorem n0.same {f:Fc} {fr:Fr} (hf:n0 f fr) {t:Nat} {v:V} (hv:fr.get t=v):n0 f ((t,v)::fr.gR [t]):=by
 intro n
 rw [hf n]
 simp only [Fr.get]
 by_cases h:t=n
 · rw [if_pos h,<-h];exact hv
 · rw [if_neg h,Fr.cR,if_neg (by rw [bG];simpa using Ne.symm h)]
def O7 (r:Rz) (x:Fr×St):Prop:=∃ f' m',r=.sH f' m'/\n0 f' x.1/\eC m' x.2
section
variable {rf:Rf} (hA:Ai rf A) {r:Rz} (hr:r≠.none)
include hA hr
theorem Dk {α:Type} {Q:α->Prop} {op:pQ} {dst:Option Nat} {kill:List Nat} {rest:Fr->St->T α} {k:SM->Fc->Rz} (hk:∀ (f':Fc) (m':SM) (bH:Fr) (aR:St),n0 f' bH->eC m' aR->k m' f'=r->(rest bH aR).wp A Q)
 {f:Fc} {m:SM} {fr:Fr} {st:St} (hf:n0 f fr) (hs:eC m st) (h:(jI op).run rf f m (fun v st=>(lB dst kill).run v f fun fr=>k st fr)=r):
 ((step op fr st).bind fun x=>match x with|(v,st)=>fr.after dst v kill fun fr=>rest fr st).wp A Q:=by
 rw [T.wp_bind]
 refine op_ok hf hr hA hs (fun v m' aR iA h=>?_) op h
 obtain ⟨rfl,f',GK,h⟩:=hf.put hr h
 dsimp only
 rw [Fr.bJ]
 exact hk _ _ _ _ GK iA h
omit hA in
theorem GL {α:Type} {Q:α->Prop} {dst:Option Nat} {kill:List Nat} {rest:Fr->St->T α} {k:SM->Fc->Rz} (hk:∀ (f':Fc) (m':SM) (bH:Fr) (aR:St),n0 f' bH->eC m' aR->k m' f'=r->(rest bH aR).wp A Q)
 {f:Fc} {m:SM} {fr:Fr} {st:St} (hf:n0 f fr) (hs:eC m st) {v:V} (h:(lB dst kill).run v f (fun fr=>k m fr)=r):
 (fr.after dst v kill fun fr=>rest fr st).wp A Q:=by
 obtain ⟨rfl,f',GK,h⟩:=hf.put hr h
 rw [Fr.bJ]
 exact hk _ _ _ _ GK hs h
theorem cOps_ok {P:Fr×St->Prop} (hP:∀ x,O7 r x->P x):∀ (ops:List cD) (f:Fc) (m:SM) (fr:Fr) (st:St),n0 f fr->eC m st->(q8 ops).run rf f m=r->(cM ops fr st).wp A P
 |[],f,m,fr,st,hf,hs,h=>hP _ ⟨f,m,h.symm,hf,hs⟩
 |o::rest,f,m,fr,st,hf,hs,h=>by
  have ih:=cOps_ok hP rest
  have hk:∀ (f':Fc) (m':SM) (bH:Fr) (aR:St),n0 f' bH->eC m' aR->(q8 rest).run rf f' m'=r->(cM rest bH aR).wp A P:=fun f' m' bH aR a b c=>ih f' m' bH aR a b c
  simp only [cM]
  replace h:(aZ o.guard ⟨fun rf fr st=>(jI o.op).run rf fr st fun v st=>(lB o.dst o.kill).run v fr fun fr=>(q8 rest).run rf fr st⟩ fun g=>⟨fun rf fr st=>(yN (some g)).run fr ((jI o.op).run rf fr st fun v st=>(lB o.dst o.kill).run v fr fun fr=>(q8 rest).run rf fr st) ((lB o.dst o.kill).run (.bO []) fr fun fr=>(q8 rest).run rf fr st)⟩:Rg).run rf f m=r:=h
  cases hg:o.guard with
  |none=>
   rw [hg] at h
   exact Dk hA hr (k:=fun m f=>(q8 rest).run rf f m) hk hf hs h
  |some q=>
   obtain ⟨t,want⟩:=q
   rw [hg] at h
   replace h:vG .none (fun x=>aL (aL want x (gF x)) ((jI o.op).run rf f m fun v st=>(lB o.dst o.kill).run v f fun fr=>(q8 rest).run rf fr st) ((lB o.dst o.kill).run (.bO []) f fun fr=>(q8 rest).run rf fr m)) (fun _=>(lB o.dst o.kill).run (.bO []) f fun fr=>(q8 rest).run rf fr m) ((hU t).run f)=r:=h
   rw [hf t] at h
   replace h:=FN h hr;rcases h with ⟨x,hx,h⟩|⟨cs,hx,h⟩
   · have pS:=hf.same hx
     simp only [hx]
     cases want<;>cases x
     · refine rO rfl ?_
       rw [Fr.bL]
       exact Dk hA hr (k:=fun m f=>(q8 rest).run rf f m) hk pS hs h
     · refine uH rfl ?_
       rw [Fr.bL]
       exact GL hr (k:=fun m f=>(q8 rest).run rf f m) hk pS hs h
     · refine rO rfl ?_
       rw [Fr.bL]
       exact GL hr (k:=fun m f=>(q8 rest).run rf f m) hk pS hs h
     · refine uH rfl ?_
       rw [Fr.bL]
       exact Dk hA hr (k:=fun m f=>(q8 rest).run rf f m) hk pS hs h
   · simp only [hx]
     exact GL hr (k:=fun m f=>(q8 rest).run rf f m) hk hf hs h
omit hA hr in
theorem DP (n:Nat):∀ ks,Gy n ks=bK n ks
 |[]=>rfl
 |k::q=>by
  show aL (Nat.beq n k) true (Gy n q)=_
  rw [DP n q,bM]
  simp only [bK]
  cases Nat.beq n k<;>rfl
theorem reC_ok {α:Type} {Q:α->Prop} (re:List Nat) {f:Fc} {m:SM} {fr:Fr} {st:St} (hf:n0 f fr) (hs:eC m st) {y:Rz} {t:T α} (hy:y=r->t.wp A Q):∀ done:List aF,(BR re done).run rf f m y=r->(recheck re done fr st t).wp A Q
 |[],h=>hy h
 |p::ps,h=>by
  have ih:=reC_ok re hf hs hy ps
  replace h:(aL (Gy p.ix re) ⟨fun rf fr st k=>(yN p.o.guard).run fr ((jI p.o.op).run rf fr st fun v _=>aZ p.o.dst ((BR re ps).run rf fr st k) fun d=>aU (Uh ((hU d).run fr) v) ((BR re ps).run rf fr st k)) ((BR re ps).run rf fr st k)⟩ (BR re ps):fM (Rf->Fc->SM->Rz->Rz)).run rf f m y=r:=h
  rw [DP] at h
  simp only [recheck]
  cases hm:bK p.ix re with
  |false=>rw [hm] at h;exact ih h
  |true=>
   rw [hm] at h
   have go:(jI p.o.op).run rf f m (fun v _=>aZ p.o.dst ((BR re ps).run rf f m y) fun d=>aU (Uh ((hU d).run f) v) ((BR re ps).run rf f m y))=r->((step p.o.op fr st).bind fun x=>match p.o.dst with
    |some d=>.same (fr.get d) x.1 (recheck re ps fr st t)
    |none=>recheck re ps fr st t).wp A Q:=by
    intro h
    rw [T.wp_bind]
    refine op_ok hf hr hA hs (fun v m' aR _ h=>?_) _ h
    cases hd:p.o.dst with
    |none=>rw [hd] at h;exact ih h
    |some d=>
     rw [hd] at h
     obtain ⟨h1,h⟩:=aI h hr
     rw [hf d] at h1
     exact ⟨SD h1,ih h⟩
   replace h:(yN p.o.guard).run f ((jI p.o.op).run rf f m fun v _=>aZ p.o.dst ((BR re ps).run rf f m y) fun d=>aU (Uh ((hU d).run f) v) ((BR re ps).run rf f m y)) ((BR re ps).run rf f m y)=r:=h
   cases hg:p.o.guard with
   |none=>
    rw [hg] at h
    exact go h
   |some q=>
    obtain ⟨tt,want⟩:=q
    rw [hg] at h
    replace h:vG .none (fun x=>aL (aL want x (gF x)) ((jI p.o.op).run rf f m fun v _=>aZ p.o.dst ((BR re ps).run rf f m y) fun d=>aU (Uh ((hU d).run f) v) ((BR re ps).run rf f m y)) ((BR re ps).run rf f m y)) (fun _=>(BR re ps).run rf f m y) ((hU tt).run f)=r:=h
    rw [hf tt] at h
    replace h:=FN h hr;rcases h with ⟨x,hx,h⟩|⟨cs,hx,h⟩
    · simp only [bW,hx]
      cases want<;>cases x
      · exact go h
      · exact ih h
      · exact ih h
      · exact go h
    · simp only [bW,hx]
      exact ih h
theorem cDr_ok {P:Fr×St->Prop} (hP:∀ x,O7 r x->P x) (kill:List Nat):∀ (ds done:List aF) (f:Fc) (m:SM) (fr:Fr) (st:St),n0 f fr->eC m st->(Km kill ds done).run rf f m=r->(eN done ds fr st).wp A fun x=>(qS kill x).wp A P
 |[],done,f,m,fr,st,hf,hs,h=>by
  cases kill with
  |cons x q=>exact absurd h.symm hr
  |nil=>
   show (qS [] (fr,st)).wp A P
   simp only [qS]
   rw [Fr.bL]
   exact hP _ ⟨f,m,h.symm,fun n=>by rw [Fr.cR];exact hf n,hs⟩
 |d::rest,done,f,m,fr,st,hf,hs,h=>by
  have ih:=cDr_ok hP kill rest
  simp only [eN]
  replace h:(yN d.o.guard).run f ((jI d.o.op).run rf f m fun v st=>(lB d.o.dst []).run v f fun fr=>(BR d.re done).run rf fr st ((Km kill rest (d::done)).run rf fr st)) ((lB d.o.dst []).run (.bO []) f fun fr=>(Km kill rest (d::done)).run rf fr m)=r:=h
  have yes:∀ fY,n0 f fY->((jI d.o.op).run rf f m fun v st=>(lB d.o.dst []).run v f fun fr=>(BR d.re done).run rf fr st ((Km kill rest (d::done)).run rf fr st))=r->
   ((step d.o.op fY st).bind fun x=>match x with
     |(v,st)=>fY.after d.o.dst v [] fun fr=>recheck d.re done fr st (eN (d::done) rest fr st)).wp A fun x=>(qS kill x).wp A P:=by
   intro fY pS h
   exact Dk hA hr (rest:=fun fr st=>recheck d.re done fr st (eN (d::done) rest fr st)) (k:=fun m f=>(BR d.re done).run rf f m ((Km kill rest (d::done)).run rf f m))
    (fun f' m' bH aR a b c=>reC_ok hA hr d.re a b (fun c=>ih (d::done) f' m' bH aR a b c) done c) pS hs h
  have no:∀ fY,n0 f fY->((lB d.o.dst []).run (.bO []) f fun fr=>(Km kill rest (d::done)).run rf fr m)=r->(fY.after d.o.dst (.bO []) [] fun fr=>eN (d::done) rest fr st).wp A fun x=>(qS kill x).wp A P:=by
   intro fY pS h
   exact GL hr (rest:=fun fr st=>eN (d::done) rest fr st) (k:=fun m f=>(Km kill rest (d::done)).run rf f m) (fun f' m' bH aR a b c=>ih (d::done) f' m' bH aR a b c) pS hs h
  unfold lL
  cases hg:d.o.guard with
  |none=>rw [hg] at h;exact yes fr hf h
  |some q=>
   obtain ⟨t,want⟩:=q
   rw [hg] at h
   replace h:vG .none (fun x=>aL (aL want x (gF x)) ((jI d.o.op).run rf f m fun v st=>(lB d.o.dst []).run v f fun fr=>(BR d.re done).run rf fr st ((Km kill rest (d::done)).run rf fr st)) ((lB d.o.dst []).run (.bO []) f fun fr=>(Km kill rest (d::done)).run rf fr m)) (fun _=>(lB d.o.dst []).run (.bO []) f fun fr=>(Km kill rest (d::done)).run rf fr m) ((hU t).run f)=r:=h
   rw [hf t] at h
   dsimp only
   replace h:=FN h hr;rcases h with ⟨x,hx,h⟩|⟨cs,hx,h⟩
   · have pS:=hf.same hx
     simp only [hx]
     cases want<;>cases x
     · refine rO rfl ?_
       rw [Fr.bL]
       exact yes _ pS h
     · refine uH rfl ?_
       rw [Fr.bL]
       exact no _ pS h
     · refine rO rfl ?_
       rw [Fr.bL]
       exact no _ pS h
     · refine uH rfl ?_
       rw [Fr.bL]
       exact yes _ pS h
   · simp only [hx]
     exact no _ hf h
end
def Yb:Rz->Ex->Fr->St->Prop
 |.none,_,_,_=>False
 |.sH f m,e,fr,st=>e=.normal/\n0 f fr/\eC m st
 |.exit id f m,e,fr,st=>e=.exit id/\n0 f fr/\eC m st
 |.ret f m,e,fr,st=>e=.ret/\n0 f fr/\eC m st
def B5 (gc:fM (Fc->SM->(SM->Rz)->Rz)):Prop:=∀ (f:Fc) (m:SM) (K:SM->Rz) (r:Rz),gc.run f m K=r->r≠.none->∃ m',K m'=r/\∀ st,eC m st->eC m' st
theorem noGc_ok:B5 fF:=fun _ m _ _ h _=>⟨m,h,fun _ h=>h⟩
theorem FO (gc:fM (Fc->SM->(SM->Rz)->Rz)) (b:Rg) (rf:Rf) (f:Fc) (m:SM):uU gc b rf 0 f m=.none:=by unfold uU;rfl
theorem FP (gc:fM (Fc->SM->(SM->Rz)->Rz)) (b:Rg) (rf:Rf) (n:Nat) (f:Fc) (m:SM):uU gc b rf (n+1) f m=gc.run f m fun st=>mU (b.run rf f st) (uU gc b rf n):=by unfold uU;rfl
theorem FQ (gc:fM (Fc->SM->(SM->Rz)->Rz)) (b:AC) (rf:Rf) (f:Fc) (m:SM):(cN gc (.loop b)).run rf f m=uU gc (cN gc b) rf DH f m:=rfl
theorem code2_ok {gc:fM (Fc->SM->(SM->Rz)->Rz)} (wC:B5 gc) {rf:Rf} (hA:Ai rf A):∀ (c:AC) (f:Fc) (m:SM) (fr:Fr) (st:St) (r:Rz) (Q:Ex->Fr->St->Prop),(cN gc c).run rf f m=r->r≠.none->n0 f fr->eC m st->(∀ e fr st,Yb r e fr st->Q e fr st)->pT A c Q fr st
 |.skip,f,m,fr,st,r,Q,h,hr,hf,hs,hQ=>by subst h;exact hQ _ _ _ ⟨rfl,hf,hs⟩
 |.Gb ops,f,m,fr,st,r,Q,h,hr,hf,hs,hQ=>by
  have KB:∀ x,O7 r x->jN Q x:=fun ⟨bH,aR⟩ ⟨f',m',e1,e2,e3⟩=>by subst e1;exact hQ _ _ _ ⟨rfl,e2,e3⟩
  exact cOps_ok hA hr KB ops f m fr st hf hs h
 |.vD ds kill,f,m,fr,st,r,Q,h,hr,hf,hs,hQ=>by
  have KB:∀ x,O7 r x->jN Q x:=fun ⟨bH,aR⟩ ⟨f',m',e1,e2,e3⟩=>by subst e1;exact hQ _ _ _ ⟨rfl,e2,e3⟩
  simp only [pT]
  rw [T.wp_bind]
  exact cDr_ok hA hr KB kill ds [] f m fr st hf hs h
 |.seq a b,f,m,fr,st,r,Q,h,hr,hf,hs,hQ=>by
  replace h:mU ((cN gc a).run rf f m) (fun fr st=>(cN gc b).run rf fr st)=r:=h
  cases ha:(cN gc a).run rf f m with
  |none=>rw [ha] at h;exact absurd h.symm hr
  |sH f1 m1=>
   rw [ha] at h
   refine code2_ok wC hA a f m fr st _ _ ha (fun e=>by cases e) hf hs fun e bH aR hk=>?_
   obtain ⟨rfl,GK,iA⟩:=hk
   exact code2_ok wC hA b f1 m1 bH aR r Q h hr GK iA hQ
  |exit id f1 m1=>
   rw [ha] at h
   subst h
   refine code2_ok wC hA a f m fr st _ _ ha (fun e=>by cases e) hf hs fun e bH aR hk=>?_
   have:=hQ _ _ _ hk
   obtain ⟨rfl,_⟩:=hk
   exact this
  |ret f1 m1=>
   rw [ha] at h
   subst h
   refine code2_ok wC hA a f m fr st _ _ ha (fun e=>by cases e) hf hs fun e bH aR hk=>?_
   have:=hQ _ _ _ hk
   obtain ⟨rfl,_⟩:=hk
   exact this
 |.cond d a b,f,m,fr,st,r,Q,h,hr,hf,hs,hQ=>by
  replace h:vB .none (fun x=>aL x ((cN gc a).run rf f m) ((cN gc b).run rf f m)) ((cC d).run f)=r:=h
  rw [rA hf] at h
  obtain ⟨x,hx,h⟩:=FM h hr
  simp only [pT,hx]
  cases x
  · exact rO rfl (code2_ok wC hA b f m fr st r Q h hr hf hs hQ)
  · exact uH rfl (code2_ok wC hA a f m fr st r Q h hr hf hs hQ)
 |.aW id b,f,m,fr,st,r,Q,h,hr,hf,hs,hQ=>by
  replace h:Rz.rec (motive:=fun _=>Rz) .none .sH (fun Ad fr st=>aL (Nat.beq Ad id) (.sH fr st) (.exit Ad fr st)) .ret ((cN gc b).run rf f m)=r:=h
  cases hb:(cN gc b).run rf f m with
  |none=>rw [hb] at h;exact absurd h.symm hr
  |sH f1 m1=>
   rw [hb] at h
   subst h
   refine code2_ok wC hA b f m fr st _ _ hb (fun e=>by cases e) hf hs fun e bH aR hk=>?_
   have:=hQ _ _ _ hk
   obtain ⟨rfl,_⟩:=hk
   exact this
  |exit Ad f1 m1=>
   rw [hb] at h
   replace h:aL (Nat.beq Ad id) (.sH f1 m1) (.exit Ad f1 m1)=r:=h
   refine code2_ok wC hA b f m fr st _ _ hb (fun e=>by cases e) hf hs fun e bH aR hk=>?_
   obtain ⟨rfl,GK,iA⟩:=hk
   rw [bM,cZ] at h
   simp only [gA]
   by_cases A0:Ad=id
   · rw [if_pos (by simpa using A0)] at h
     rw [if_pos A0]
     subst h
     exact hQ _ _ _ ⟨rfl,GK,iA⟩
   · rw [if_neg (by simpa using A0)] at h
     rw [if_neg A0]
     subst h
     exact hQ _ _ _ ⟨rfl,GK,iA⟩
  |ret f1 m1=>
   rw [hb] at h
   subst h
   refine code2_ok wC hA b f m fr st _ _ hb (fun e=>by cases e) hf hs fun e bH aR hk=>?_
   have:=hQ _ _ _ hk
   obtain ⟨rfl,_⟩:=hk
   exact this
 |.loop b,f,m,fr,st,r,Q,h,hr,hf,hs,hQ=>by
  have Yc:=code2_ok wC hA b
  have key:∀ (n:Nat) (f:Fc) (m:SM) (fr:Fr) (st:St),uU gc (cN gc b) rf n f m=r->n0 f fr->eC m st->pT A (.loop b) Q fr st:=by
   intro n
   induction n with
   |zero=>intro f m fr st h hf hs;rw [FO] at h;exact absurd h.symm hr
   |succ n ih=>
    intro f m fr st h hf hs
    rw [FP] at h
    obtain ⟨m0,h,UG⟩:=wC _ _ _ _ h hr
    have hs:=UG st hs
    intro R hR
    cases hb:(cN gc b).run rf f m0 with
    |none=>rw [hb] at h;exact absurd h.symm hr
    |sH f1 m1=>
     rw [hb] at h
     refine hR _ _ _ (Fr.le_refl _) (Yc f m0 fr st _ _ hb (fun e=>by cases e) hf hs fun e bH aR hk=>?_)
     obtain ⟨rfl,GK,iA⟩:=hk
     exact ih f1 m1 bH aR h GK iA R hR
    |exit id f1 m1=>
     rw [hb] at h
     replace h:Rz.exit id f1 m1=r:=h
     subst h
     refine hR _ _ _ (Fr.le_refl _) (Yc f m0 fr st _ _ hb (fun e=>by cases e) hf hs fun e bH aR hk=>?_)
     have:=hQ _ _ _ hk
     obtain ⟨rfl,_⟩:=hk
     exact this
    |ret f1 m1=>
     rw [hb] at h
     replace h:Rz.ret f1 m1=r:=h
     subst h
     refine hR _ _ _ (Fr.le_refl _) (Yc f m0 fr st _ _ hb (fun e=>by cases e) hf hs fun e bH aR hk=>?_)
     have:=hQ _ _ _ hk
     obtain ⟨rfl,_⟩:=hk
     exact this
  rw [FQ] at h
  exact key DH f m fr st h hf hs
 |.exit id,f,m,fr,st,r,Q,h,hr,hf,hs,hQ=>by subst h;exact hQ _ _ _ ⟨rfl,hf,hs⟩
 |.ret,f,m,fr,st,r,Q,h,hr,hf,hs,hQ=>by subst h;exact hQ _ _ _ ⟨rfl,hf,hs⟩
 |.no,f,m,fr,st,r,Q,h,hr,hf,hs,hQ=>absurd h.symm hr
end
open Go
theorem pf2_ok {r:Rz} (hr:r≠.none):∀ (args:List V) (n:Nat) (f:Fc) (k:Fc->Rz),Rl args n f k=r->∃ f',k f'=r/\∀ t,(hU t).run f'=if n<=t/\t - n<args.length then args.getD (t - n) .a8 else (hU t).run f
 |[],n,f,k,h=>⟨f,h,fun t=>by rw [if_neg (by simp)]⟩
 |v::q,n,f,k,h=>by
  replace h:(FE n Rz.none).run f v (fun f=>Rl q (n+1) f k)=r:=h
  obtain ⟨f1,h,h1⟩:=BW h hr
  obtain ⟨f2,h,h2⟩:=pf2_ok hr q (n+1) f1 k h
  refine ⟨f2,h,fun t=>?_⟩
  rw [h2 t,h1 t]
  by_cases ht:t=n
  · subst ht
    rw [if_neg (by omega),if_pos rfl,if_pos ⟨Nat.le_refl _,by simp⟩]
    simp
  · rw [if_neg ht]
    by_cases hl:n+1<=t/\t - (n+1)<q.length
    · rw [if_pos hl,if_pos ⟨by omega,by simp;omega⟩,show t - n=(t - (n+1))+1 by omega]
      simp
    · rw [if_neg hl,if_neg (fun hh=>hl (by have:=hh.2;simp at this;omega))]
theorem tV {r:Rz} (hr:r≠.none) {args:List V} {k:Fc->Rz} (h:Rl args 0 HN k=r):∃ f',k f'=r/\n0 f' (cI 0 args):=by
 obtain ⟨f',h,h1⟩:=pf2_ok hr args 0 HN k h
 refine ⟨f',h,fun t=>?_⟩
 rw [h1 t,gT,if_pos (Nat.zero_le _),GC,Nat.sub_zero]
 split
 · rfl
 · rename_i hl
   rw [List.getD_eq_getElem?_getD,List.getElem?_eq_none (by omega)];rfl
theorem pK {α β:Type} {o:Option α} {k:α->Option β} {x:β} (h:aZ o none k=some x):∃ y,o=some y/\k y=some x:=by
 cases o with
 |none=>cases h
 |some y=>exact ⟨y,rfl,h⟩
section
variable {f:Fc} {fr:Fr} {m:SM} {st:St} (hf:n0 f fr) (hs:eC m st)
include hf hs
theorem res1_ok {rv:RV} {v:V} (h:(Ss rv).run f m=some v):Bn fr st rv=some v:=by
 cases rv with
 |t n=>
  replace h:nY ((hU n).run f)=some v:=h
  rw [sN,hf n] at h
  exact h
 |cell n sz=>
  replace h:vP none (fun key off=>aZ (m.look key) none fun o=>A8 (fun c=>aZ (Gz c off sz) none nY) (fun _ _=>none) none (fun _ _=>none) o) (fun _ _ _ _=>none) (fun _ _=>none) ((hU n).run f)=some v:=h
  rw [hf n] at h
  simp only [Bn]
  cases hq:fr.get n with
  |p key off=>
   rw [hq] at h
   obtain ⟨o,h1,h⟩:=pK (k:=fun o=>A8 (fun c=>aZ (Gz c off sz) none nY) (fun _ _=>none) none (fun _ _=>none) o) h
   have h1:=look_ok hs h1
   cases o with
   |cs c=>
    obtain ⟨u,h2,h⟩:=pK (k:=nY) h
    rw [B0] at h2
    rw [sN] at h
    simp only [h1,h2,h]
   |_=>cases h
  |_=>rw [hq] at h;cases h
theorem ress_ok:∀ {rs:List RV} {vs:List V},(Kn rs).run f m=some vs->jJ fr st rs=some vs
 |[],vs,h=>h
 |r::q,vs,h=>by
  obtain ⟨v,h1,h⟩:=pK (o:=(Ss r).run f m) (k:=fun v=>aZ ((Kn q).run f m) none fun vs=>some (v::vs)) h
  obtain ⟨us,h2,h⟩:=pK h
  cases h
  simp only [jJ,res1_ok hf hs h1,ress_ok h2]
theorem endC_ok {rs:List RV} {v:V} {m':Mem} (h:(BS rs).run f m=.some v m'):rJ fr st rs=some v/\gZ m' st.g:=by
 obtain ⟨gn,g,ln,l⟩:=m
 replace h:aZ ((Kn rs).run f (.mk gn g ln l)) Cz.none (fun vs=>Cz.some (Su vs) (.mk gn g))=.some v m':=h
 cases hq:(Kn rs).run f (.mk gn g ln l) with
 |none=>rw [hq] at h;cases h
 |some vs=>
  rw [hq] at h
  replace h:Cz.some (Su vs) (.mk gn g)=.some v m':=h
  cases h
  refine ⟨?_,hs.1,hs.2.2.1⟩
  simp only [rJ,ress_ok hf hs hq]
  match vs with
  |[]=>rfl
  |[x]=>rfl
  |x::y::q=>rfl
end
section
variable {P:Program}
theorem noL_ok {n:Nat} {t:TH} {h:aA} (hm:gZ (.mk n t) h):eC (.mk n t 0 .nil) (eR h):=⟨hm.1,rfl,hm.2,fun _ _ e=>by cases e⟩
theorem cFn_ok {gc:fM (Fc->SM->(SM->Rz)->Rz)} (wC:B5 gc) {rf:Rf} (hA:Ai rf (aB P)) {f:Nat} {F:aC} (hk:gB P f F=true) {args:List V} {m:Mem} {v:V} {m':Mem} (h:(Vs gc F).run rf args m=.some v m')
 {hh:aA} (hm:gZ m hh) {K:V->aA->Prop} (hK:∀ h',gZ m' h'->K v h'):aB P f args hh K:=by
 obtain ⟨n,t⟩:=m
 replace h:aL (Nat.beq (bY args) F.nparams) (Rz.rec (motive:=fun _=>Cz) .none (fun fr st=>(BS F.results).run fr st) (fun _ _ _=>.none) (fun fr st=>(BS F.results).run fr st) (Rl args 0 HN fun f=>(cN gc F.body).run rf f (.mk n t 0 .nil))) Cz.none=.some v m':=h
 rw [bM,cZ,bE] at h
 split at h
 case isFalse=>cases h
 rename_i hn
 have hn:args.length=F.nparams:=by simpa using hn
 refine fn_ok hk hn ?_
 cases hq:Rl args 0 HN fun f=>(cN gc F.body).run rf f (.mk n t 0 .nil) with
 |none=>rw [hq] at h;cases h
 |exit id f1 m1=>rw [hq] at h;cases h
 |sH f1 m1=>
  rw [hq] at h
  obtain ⟨f',hc,GK⟩:=tV (by intro e;cases e) hq
  refine code2_ok wC hA F.body f' _ _ _ _ _ hc (by intro e;cases e) GK (noL_ok hm) fun e fr st hk=>?_
  obtain ⟨rfl,h1,h2⟩:=hk
  obtain ⟨h3,h4⟩:=endC_ok h1 h2 h
  simp only [mK,h3]
  exact hK _ h4
 |ret f1 m1=>
  rw [hq] at h
  obtain ⟨f',hc,GK⟩:=tV (by intro e;cases e) hq
  refine code2_ok wC hA F.body f' _ _ _ _ _ hc (by intro e;cases e) GK (noL_ok hm) fun e fr st hk=>?_
  obtain ⟨rfl,h1,h2⟩:=hk
  obtain ⟨h3,h4⟩:=endC_ok h1 h2 h
  simp only [mK,h3]
  exact hK _ h4
def KC (P:Program) (Ko:Nat->Option (fM (Rf->List V->Mem->Cz))):Prop:=∀ f c,Ko f=some c->∀ rf,Ai rf (aB P)->∀ args m v m',c.run rf args m=.some v m'->∀ h,gZ m h->∀ K:V->aA->Prop,(∀ h',gZ m' h'->K v h')->aB P f args h K
theorem rfN_ok {fns:Nat->Option aC} {Ko:Nat->Option (fM (Rf->List V->Mem->Cz))} {gc:Nat->fM (Fc->SM->(SM->Rz)->Rz)} (hf:yD P fns) (ho:KC P Ko) (hg:∀ f,B5 (gc f)):∀ n,Ai (Sv fns Ko gc n) (aB P)
 |0=>fun _ _ _ _ _ h=>by cases h
 |n+1=>fun f vs m v m' h hh hm K hK=>by
  have ih:=rfN_ok hf ho hg n
  replace h:(aZ (Ko f) (aZ (fns f) ⟨fun _ _ _=>.none⟩ fun F=>Vs (gc f) F) fun c=>c).run (Sv fns Ko gc n) vs m=.some v m':=h
  cases hq:Ko f with
  |some c=>
   rw [hq] at h
   exact ho f c hq _ ih _ _ _ _ h hh hm K hK
  |none=>
   rw [hq] at h
   cases hF:fns f with
   |none=>rw [hF] at h;cases h
   |some F=>
    rw [hF] at h
    exact cFn_ok (hg f) ih (hf f F hF) h hm hK
end
open Go
noncomputable def KD (k:Key) (acc:List Nat):List Nat:=j5 k (fun n=>n::acc) fun _=>acc
noncomputable def KE (v:V):List Nat->List Nat:=V.rec (motive_1:=fun _=>List Nat->List Nat) (motive_2:=fun _=>List Nat->List Nat) (motive_3:=fun _=>Unit)
 (fun _ a=>a) (fun _ _ a=>a) (fun _ a=>a) (fun a=>a) (fun k _=>KD k) (fun k _ _ _=>KD k) (fun _ _ ih=>ih) (fun a=>a) (fun t _ _ _ a=>aZ t a fun k=>KD k a) (fun k _ _ _=>KD k) (fun a=>a) (fun k=>KD k) (fun _ _ _ i j a=>i (j a)) (fun a=>a) (fun _ ih=>ih) (fun _ ih=>ih) (fun a=>a)
 (fun a=>a) (fun _ _ i j a=>i (j a)) () (fun _ _ _ _=>()) v
noncomputable def Ro (l:List V) (acc:List Nat):List Nat:=List.rec (motive:=fun _=>List Nat) acc (fun v _ ih=>KE v ih) l
noncomputable def GM (o:Obj) (acc:List Nat):List Nat:=A8 (fun c=>Ro c acc) (fun _ es=>List.rec (motive:=fun _=>List Nat) acc (fun e _ ih=>Ro e ih) es) acc (fun _ es=>List.rec (motive:=fun _=>List Nat) acc (fun q _ ih=>KE q.2 ih) es) o
noncomputable def Rp (t:TH):List Nat->List Nat:=TH.rec (motive:=fun _=>List Nat->List Nat) (fun a=>a) (fun _ o a=>GM o a) (fun _ _ _ _ a b c d l=>a (b (c (d l)))) t
noncomputable def Rq (f:Fc) (ns:List Nat) (acc:List Nat):List Nat:=List.rec (motive:=fun _=>List Nat) acc (fun n _ ih=>KE ((hU n).run f) ih) ns
noncomputable def mark (fuel:Nat):TH->List Nat->TH->(TH->Rz)->Rz:=Nat.rec (motive:=fun _=>TH->List Nat->TH->(TH->Rz)->Rz) (fun _ _ _ _=>.none)
 (fun _ ih old work new k=>List.rec (motive:=fun _=>Rz) (k new) (fun n q _=>aZ (new.get n n) (aZ (old.get n n) (ih old q new k) fun o=>TH.put n o new n 1 fun new=>spell (GM o q) fun q=>ih old q new k) fun _=>ih old q new k) work) fuel
noncomputable def Z5 (ns:List Nat):fM (Fc->SM->(SM->Rz)->Rz):=⟨fun f m k=>m.Rk fun gn g ln l=>spell (Rp l (Rq f ns [])) fun w=>mark DH g w .nil fun t=>k (.mk gn t ln l)⟩
theorem mark_ok {r:Rz} (hr:r≠.none):∀ (fuel:Nat) (old:TH) (work:List Nat) (new:TH) (k:TH->Rz),mark fuel old work new k=r->(∀ n o,new.get n n=some o->old.get n n=some o)->∃ t,k t=r/\∀ n o,t.get n n=some o->old.get n n=some o
 |0,_,_,_,_,h,_=>absurd h.symm hr
 |f+1,old,[],new,k,h,hn=>⟨new,h,hn⟩
 |f+1,old,n::q,new,k,h,hn=>by
  replace h:aZ (new.get n n) (aZ (old.get n n) (mark f old q new k) fun o=>TH.put n o new n 1 fun new=>spell (GM o q) fun q=>mark f old q new k) (fun _=>mark f old q new k)=r:=h
  cases h1:new.get n n with
  |some o=>rw [h1] at h;exact mark_ok hr f old q new k h hn
  |none=>
   rw [h1] at h
   cases h2:old.get n n with
   |none=>rw [h2] at h;exact mark_ok hr f old q new k h hn
   |some o=>
    rw [h2] at h
    replace h:TH.put n o new n 1 (fun new=>spell (GM o q) fun q=>mark f old q new k)=r:=h
    obtain ⟨t',e1,e2⟩:=TH.put_eq n o new n 1
    rw [e1,dA] at h
    refine mark_ok hr f old _ t' k h fun x w hx=>?_
    rcases e2 _ _ _ (fun e=>e) hx with ⟨rfl,rfl⟩|⟨_,h3⟩
    · exact h2
    · exact hn _ _ h3
theorem gcK_ok (ns:List Nat):B5 (Z5 ns):=by
 rintro f ⟨gn,g,ln,l⟩ K r h hr
 replace h:spell (Rp l (Rq f ns [])) (fun w=>mark DH g w .nil fun t=>K (.mk gn t ln l))=r:=h
 rw [dA] at h
 obtain ⟨t,h,ht⟩:=mark_ok hr _ _ _ _ _ h fun n o e=>by cases e
 exact ⟨_,h,fun st hs=>⟨hs.1,hs.2.1,fun n o e=>hs.2.2.1 n o (ht n o e),hs.2.2.2⟩⟩
open Go
structure Md where
 n:Nat
 g:List (Nat×Obj)
structure Sd where
 fr:List (Nat×V)
 ln:Nat
 m:Md
def FR (M:Md) (h:aA):Prop:=h.next=M.n/\∀ k o,(k,o)∈M.g->h.get k=some o
def Fact (P:Program) (f:Nat) (args:List V) (M:Md) (v:V) (M':Md):Prop:=∀ h,FR M h->∀ K:V->aA->Prop,(∀ h',FR M' h'->K v h')->aB P f args h K
section
variable {α:Type}
noncomputable def B6 (l:List (Nat×Obj)) (t:TH) (k:TH->α):α:=List.rec (motive:=fun _=>TH->(TH->α)->α) (fun t k=>k t) (fun q _ ih t k=>TH.put q.1 q.2 t q.1 1 fun t=>ih t k) l t k
noncomputable def W4 (no:α) (l:List (Nat×V)) (f:Fc) (k:Fc->α):α:=List.rec (motive:=fun _=>Fc->(Fc->α)->α) (fun f k=>k f) (fun q _ ih f k=>(FE q.1 no).run f q.2 fun f=>ih f k) l f k
theorem memK_ok:∀ (l:List (Nat×Obj)) (t:TH),∃ t',(∀ k:TH->α,B6 l t k=k t')/\∀ n o,t'.get n n=some o->(n,o)∈l\/t.get n n=some o
 |[],t=>⟨t,fun _=>rfl,fun _ _ h=>.inr h⟩
 |(j,u)::r,t=>by
  obtain ⟨t1,a1,a2⟩:=TH.put_eq j u t j 1
  obtain ⟨t2,b1,b2⟩:=memK_ok r t1
  refine ⟨t2,fun k=>(a1 α _).trans (b1 k),fun n o h=>?_⟩
  rcases b2 n o h with h|h
  · exact .inl (.tail _ h)
  · rcases a2 n n o (fun e=>e) h with ⟨e1,e2⟩|⟨_,h⟩
    · subst e1;subst e2;exact .inl (.head _)
    · exact .inr h
end
def Aj:List (Nat×V)->Fr->Fr
 |[],fr=>fr
 |q::r,fr=>Aj r (q::fr)
theorem frK_ok {α:Type} {no r:α} (hr:r≠no):∀ (l:List (Nat×V)) (f:Fc) (k:Fc->α),W4 no l f k=r->∃ f',k f'=r/\∀ fr,n0 f fr->n0 f' (Aj l fr)
 |[],f,k,h=>⟨f,h,fun _ hf=>hf⟩
 |(n,v)::q,f,k,h=>by
  replace h:(FE n no).run f v (fun f=>W4 no q f k)=r:=h
  obtain ⟨f1,h,h1⟩:=BW h hr
  obtain ⟨f2,h,h2⟩:=frK_ok hr q f1 k h
  refine ⟨f2,h,fun fr hf=>h2 _ fun m=>?_⟩
  rw [h1 m]
  simp only [Fr.get]
  by_cases hm:m=n
  · rw [if_pos hm,if_pos hm.symm]
  · rw [if_neg hm,if_neg (Ne.symm hm)];exact hf m
theorem DQ {n:Nat}:∀ (l:List (Nat×V)) (fr:Fr),(∃ v,(n,v)∈l/\(Aj l fr).get n=v)\/(Aj l fr).get n=fr.get n
 |[],_=>.inr rfl
 |(m,u)::r,fr=>by
  rcases DQ r ((m,u)::fr) with ⟨v,h1,h2⟩|h
  · exact .inl ⟨v,.tail _ h1,h2⟩
  · by_cases hm:m=n
    · subst hm
      exact .inl ⟨u,.head _,by rw [show Aj ((m,u)::r) fr=Aj r ((m,u)::fr) from rfl,h];simp [Fr.get]⟩
    · refine .inr ?_
      rw [show Aj ((m,u)::r) fr=Aj r ((m,u)::fr) from rfl,h]
      simp only [Fr.get,if_neg hm]
noncomputable def KF (a b:Option Key):Bool:=aZ a (aZ b true fun _=>false) fun a=>aZ b false fun b=>tL a b
noncomputable def bQ (a b:Bool):Bool:=aL a b false
noncomputable def fJ (v:V):V->Bool:=V.rec (motive_1:=fun _=>V->Bool) (motive_2:=fun _=>List V->Bool) (motive_3:=fun _=>List (List V)->Bool)
 (fun x u=>vB false (fun y=>aL x y (gF y)) u)
 (fun k n u=>eG false (fun j m=>bQ (lA k j) (HP n m)) u)
 (fun a u=>jD false (fun b=>BN a b) u)
 (fun u=>X7 false true (fun _ _=>false) (fun _ _ _ _=>false) u)
 (fun k o u=>vP false (fun k' o'=>bQ (tL k k') (Nat.beq o o')) (fun _ _ _ _=>false) (fun _ _=>false) u)
 (fun k z i o u=>vP false (fun _ _=>false) (fun k' z' i' o'=>bQ (tL k k') (bQ (Nat.beq z z') (bQ (Nat.beq i i') (Nat.beq o o')))) (fun _ _=>false) u)
 (fun _ o ih u=>vP false (fun _ _=>false) (fun _ _ _ _=>false) (fun vR o'=>bQ (Nat.beq o o') (ih vR)) u)
 (fun u=>vL false (fun _=>false) true (fun _ _ _=>false) (fun _ _ _ _=>false) u)
 (fun t z _ ih u=>vL false (fun _=>false) false (fun t' z' l4=>bQ (KF t t') (bQ (Nat.beq z z') (ih l4))) (fun _ _ _ _=>false) u)
 (fun k z o n u=>vL false (fun _=>false) false (fun _ _ _=>false) (fun k' z' o' n'=>bQ (tL k k') (bQ (Nat.beq z z') (bQ (Nat.beq o o') (Nat.beq n n')))) u)
 (fun u=>vM false true (fun _=>false) u)
 (fun k u=>vM false false (fun k'=>tL k k') u)
 (fun f _ _ ia ic u=>vF false (fun g a' c'=>bQ (Nat.beq f g) (bQ (ia a') (ic c'))) u)
 (fun u=>X8 false true (fun _ _ _=>false) u)
 (fun _ ih u=>vA false (fun c=>ih c) u)
 (fun _ ih u=>vT false (fun c=>ih c) u)
 (fun _=>false)
 (fun l=>List.rec (motive:=fun _=>Bool) true (fun _ _ _=>false) l)
 (fun _ _ iv il l=>List.rec (motive:=fun _=>Bool) false (fun y r _=>bQ (iv y) (il r)) l)
 (fun l=>List.rec (motive:=fun _=>Bool) true (fun _ _ _=>false) l)
 (fun _ _ iv il l=>List.rec (motive:=fun _=>Bool) false (fun y r _=>bQ (iv y) (il r)) l) v
theorem bD {a b:Bool} (h:bQ a b=true):a=true/\b=true:=by cases a<;>cases b<;>first|exact ⟨rfl,rfl⟩|cases h
theorem KG {a b:Option Key} (h:KF a b=true):a=b:=by
 cases a<;>cases b<;>first
  |rfl
  |cases h
  |(rename_i x y;rw [pJ (show tL x y=true from h)])
theorem gG {n m:Nat} (h:Nat.beq n m=true):n=m:=Nat.eq_of_beq_eq_true h
mutual
theorem kS:∀ v u:V,fJ v u=true->v=u
 |.b x,u,h=>by cases u<;>first|cases h|(rename_i y;cases x<;>cases y<;>first|rfl|cases h)
 |.i k n,u,h=>by
  cases u<;>first
   |cases h
   |(rename_i j m
     obtain ⟨h1,h2⟩:=bD (show bQ (lA k j) (HP n m)=true from h)
     rw [fG] at h1;rw [nZ] at h2
     rw [of_decide_eq_true h1,of_decide_eq_true h2])
 |.s a,u,h=>by cases u<;>first|cases h|(rename_i b;replace h:BN a b=true:=h;rw [lD] at h;rw [eq_of_beq h])
 |.dZ,u,h=>by cases u<;>first|rfl|cases h
 |.p k o,u,h=>by
  cases u<;>first
   |cases h
   |(rename_i j m
     obtain ⟨h1,h2⟩:=bD (show bQ (tL k j) (Nat.beq o m)=true from h)
     rw [pJ h1,gG h2])
 |.pa k z i o,u,h=>by
  cases u<;>first
   |cases h
   |(rename_i k' z' i' o'
     obtain ⟨h1,h2⟩:=bD (show bQ (tL k k') (bQ (Nat.beq z z') (bQ (Nat.beq i i') (Nat.beq o o')))=true from h)
     obtain ⟨h2,h3⟩:=bD h2
     obtain ⟨h3,h4⟩:=bD h3
     rw [pJ h1,gG h2,gG h3,gG h4])
 |.pc cs o,u,h=>by
  cases u<;>first
   |cases h
   |(rename_i vR o'
     obtain ⟨h1,h2⟩:=bD (show bQ (Nat.beq o o') (fJ (.agg cs) (.agg vR))=true from h)
     rw [gG h1,iQ cs vR h2])
 |.bU,u,h=>by cases u<;>first|rfl|cases h
 |.sl t z es,u,h=>by
  cases u<;>first
   |cases h
   |(rename_i t' z' l4
     obtain ⟨h1,h2⟩:=bD (show bQ (KF t t') (bQ (Nat.beq z z') (fJ (.sl none 0 es) (.sl none 0 l4)))=true from h)
     obtain ⟨h2,h3⟩:=bD h2
     rw [KG h1,gG h2,yT es l4 h3])
 |.ms k z o n,u,h=>by
  cases u<;>first
   |cases h
   |(rename_i k' z' o' n'
     obtain ⟨h1,h2⟩:=bD (show bQ (tL k k') (bQ (Nat.beq z z') (bQ (Nat.beq o o') (Nat.beq n n')))=true from h)
     obtain ⟨h2,h3⟩:=bD h2
     obtain ⟨h3,h4⟩:=bD h3
     rw [pJ h1,gG h2,gG h3,gG h4])
 |.cY,u,h=>by cases u<;>first|rfl|cases h
 |.m k,u,h=>by cases u<;>first|cases h|(rename_i j;rw [pJ (show tL k j=true from h)])
 |.fn f a c,u,h=>by
  cases u<;>first
   |cases h
   |(rename_i g a' c'
     obtain ⟨h1,h2⟩:=bD (show bQ (Nat.beq f g) (bQ (fJ (.agg a) (.agg a')) (fJ (.agg c) (.agg c')))=true from h)
     obtain ⟨h2,h3⟩:=bD h2
     rw [gG h1,iQ a a' h2,iQ c c' h3])
 |.eA,u,h=>by cases u<;>first|rfl|cases h
 |.agg cs,u,h=>by cases u<;>first|cases h|(rename_i ds;rw [iQ cs ds h])
 |.bO cs,u,h=>by cases u<;>first|cases h|(rename_i ds;rw [iQ cs ds h])
 |.a8,u,h=>by cases h
theorem iQ:∀ l l':List V,fJ (.agg l) (.agg l')=true->l=l'
 |[],[],_=>rfl
 |[],_::_,h=>by cases h
 |_::_,[],h=>by cases h
 |v::r,u::q,h=>by
  obtain ⟨h1,h2⟩:=bD (show bQ (fJ v u) (fJ (.agg r) (.agg q))=true from h)
  rw [kS v u h1,iQ r q h2]
theorem yT:∀ l l':List (List V),fJ (.sl none 0 l) (.sl none 0 l')=true->l=l'
 |[],[],_=>rfl
 |[],_::_,h=>by cases h
 |_::_,[],h=>by cases h
 |v::r,u::q,h=>by
  obtain ⟨h1,h2⟩:=bD (show bQ (fJ (.agg v) (.agg u)) (fJ (.sl none 0 r) (.sl none 0 q))=true from h)
  rw [iQ v u h1,yT r q h2]
end
noncomputable def GN (l:List (V×V)):List (V×V)->Bool:=List.rec (motive:=fun _=>List (V×V)->Bool) (fun l=>List.rec (motive:=fun _=>Bool) true (fun _ _ _=>false) l) (fun q _ ih l=>List.rec (motive:=fun _=>Bool) false (fun p r _=>bQ (fJ q.1 p.1) (bQ (fJ q.2 p.2) (ih r))) l) l
theorem DR:∀ l l':List (V×V),GN l l'=true->l=l'
 |[],[],_=>rfl
 |[],_::_,h=>by cases h
 |_::_,[],h=>by cases h
 |(a,b)::r,(c,d)::q,h=>by
  obtain ⟨h1,h2⟩:=bD (show bQ (fJ a c) (bQ (fJ b d) (GN r q))=true from h)
  obtain ⟨h2,h3⟩:=bD h2
  rw [kS a c h1,kS b d h2,DR r q h3]
noncomputable def O8 (o u:Obj):Bool:=A8 (fun c=>A8 (fun d=>fJ (.agg c) (.agg d)) (fun _ _=>false) false (fun _ _=>false) u) (fun z es=>A8 (fun _=>false) (fun z' l4=>bQ (Nat.beq z z') (fJ (.sl none 0 es) (.sl none 0 l4))) false (fun _ _=>false) u)
 (A8 (fun _=>false) (fun _ _=>false) true (fun _ _=>false) u) (fun kd es=>A8 (fun _=>false) (fun _ _=>false) false (fun s0 l4=>bQ (Kk kd s0) (GN es l4)) u) o
theorem Vu {a b:Option IntKind} (h:Kk a b=true):a=b:=by
 cases a<;>cases b<;>first
  |rfl
  |cases h
  |(rename_i x y;replace h:lA x y=true:=h;rw [fG] at h;rw [of_decide_eq_true h])
theorem O9 {o u:Obj} (h:O8 o u=true):o=u:=by
 cases o with
 |cs c=>cases u<;>first|cases h|(rename_i d;rw [iQ c d h])
 |arr z es=>
  cases u<;>first
   |cases h
   |(rename_i z' l4
     obtain ⟨h1,h2⟩:=bD (show bQ (Nat.beq z z') (fJ (.sl none 0 es) (.sl none 0 l4))=true from h)
     rw [gG h1,yT es l4 h2])
 |spare=>cases u<;>first|rfl|cases h
 |mp kd es=>
  cases u<;>first
   |cases h
   |(rename_i s0 l4
     obtain ⟨h1,h2⟩:=bD (show bQ (Kk kd s0) (GN es l4)=true from h)
     rw [Vu h1,DR es l4 h2])
noncomputable def SE (t:TH) (l:List (Nat×Obj)):Bool:=List.rec (motive:=fun _=>Bool) true (fun q _ ih=>bQ (aZ (t.get q.1 q.1) false fun o=>O8 q.2 o) ih) l
noncomputable def Ak (M:Md) (n:Nat) (t:TH):Bool:=bQ (Nat.beq n M.n) (SE t M.g)
theorem covG_ok {t:TH}:∀ {l:List (Nat×Obj)},SE t l=true->∀ k o,(k,o)∈l->t.get k k=some o
 |[],_,_,_,hm=>by cases hm
 |(j,u)::r,h,k,o,hm=>by
  obtain ⟨h1,h2⟩:=bD (show bQ (aZ (t.get j j) false fun o=>O8 u o) (SE t r)=true from h)
  cases hm with
  |head=>
   cases hg:t.get j j with
   |none=>rw [hg] at h1;cases h1
   |some o'=>rw [hg] at h1;rw [O9 (show O8 u o'=true from h1)]
  |tail _ hm=>exact covG_ok h2 k o hm
theorem covM_ok {M:Md} {n:Nat} {t:TH} (h:Ak M n t=true) {hh:aA} (hm:gZ (.mk n t) hh):FR M hh:=by
 obtain ⟨h1,h2⟩:=bD h
 exact ⟨hm.1.trans (gG h1),fun k o hk=>hm.2 k o (covG_ok h2 k o hk)⟩
theorem DS {α:Type} (M:Md):∃ t,(∀ k:TH->α,B6 M.g .nil k=k t)/\∀ h,FR M h->gZ (.mk M.n t) h:=by
 obtain ⟨t,e1,e2⟩:=memK_ok (α:=α) M.g .nil
 exact ⟨t,e1,fun h hm=>⟨hm.1,fun k o hk=>(e2 k o hk).elim (hm.2 k o) fun e=>by cases e⟩⟩
section
variable {P:Program}
def Al (P:Program) (f:Nat) (c:fM (Rf->List V->Mem->Cz)):Prop:=∀ rf,Ai rf (aB P)->∀ args m v m',c.run rf args m=.some v m'->∀ h,gZ m h->∀ K:V->aA->Prop,(∀ h',gZ m' h'->K v h')->aB P f args h K
theorem KH {f:Nat}:Al P f ⟨fun _ _ _=>.none⟩:=fun _ _ _ _ _ _ h=>by cases h
theorem SF {gc:fM (Fc->SM->(SM->Rz)->Rz)} (wC:B5 gc) {f:Nat} {F:aC} (hk:gB P f F=true):Al P f (Vs gc F):=fun _ hA _ _ _ _ h _ hm _ hK=>cFn_ok wC hA hk h hm hK
structure Rr where
 args:List V
 m:Md
 v:V
 m':Md
noncomputable def Yd (l:List Rr) (eU:fM (Rf->List V->Mem->Cz)):fM (Rf->List V->Mem->Cz):=
 ⟨fun rf args m=>List.rec (motive:=fun _=>Cz) (eU.run rf args m) (fun q _ ih=>aL (fJ (.agg args) (.agg q.args)) (aL (Mem.rec (motive:=fun _=>Bool) (fun n t=>Ak q.m n t) m) (B6 q.m'.g .nil fun t=>Cz.some q.v (.mk q.m'.n t)) ih) ih) l⟩
theorem orF_ok {f:Nat} {eU:fM (Rf->List V->Mem->Cz)} (he:Al P f eU):∀ {l:List Rr},(∀ q∈l,Fact P f q.args q.m q.v q.m')->Al P f (Yd l eU)
 |[],_=>fun rf hA args m v m' h=>he rf hA args m v m' h
 |q::r,hl=>by
  intro rf hA args m v m' h hh hm K hK
  have ih:=orF_ok he (l:=r) (fun x hx=>hl x (.tail _ hx)) rf hA args m v m'
  obtain ⟨n,t⟩:=m
  replace h:aL (fJ (.agg args) (.agg q.args)) (aL (Ak q.m n t) (B6 q.m'.g .nil fun t=>Cz.some q.v (.mk q.m'.n t)) ((Yd r eU).run rf args (.mk n t))) ((Yd r eU).run rf args (.mk n t))=.some v m':=h
  rw [bM,bM] at h
  split at h
  · rename_i h1
    split at h
    · rename_i h2
      obtain ⟨t',e1,_⟩:=memK_ok (α:=Cz) q.m'.g .nil
      obtain ⟨t2,e2,e3⟩:=DS (α:=Cz) q.m'
      rw [e2] at h
      cases h
      rw [iQ _ _ h1]
      exact hl q (.head _) hh (covM_ok h2 hm) K fun h' R4=>hK h' (e3 h' R4)
    · exact ih h hh hm K hK
  · exact ih h hh hm K hK
noncomputable def orM (l:List (List V×V)) (eU:fM (Rf->List V->Mem->Cz)):fM (Rf->List V->Mem->Cz):=
 ⟨fun rf args m=>List.rec (motive:=fun _=>Cz) (eU.run rf args m) (fun q _ ih=>aL (fJ (.agg args) (.agg q.1)) (Cz.some q.2 m) ih) l⟩
theorem orM_ok {f:Nat} {eU:fM (Rf->List V->Mem->Cz)} (he:Al P f eU):∀ {l:List (List V×V)},(∀ q∈l,∀ (h:aA) (K:V->aA->Prop),K q.2 h->aB P f q.1 h K)->Al P f (orM l eU)
 |[],_=>fun rf hA args m v m' h=>he rf hA args m v m' h
 |q::r,hl=>by
  intro rf hA args m v m' h hh hm K hK
  have ih:=orM_ok he (l:=r) (fun x hx=>hl x (.tail _ hx)) rf hA args m v m'
  replace h:aL (fJ (.agg args) (.agg q.1)) (Cz.some q.2 m) ((orM r eU).run rf args m)=.some v m':=h
  rw [bM] at h
  split at h
  · rename_i h1
    cases h
    rw [iQ _ _ h1]
    exact hl q (.head _) hh K (hK _ hm)
  · exact ih h hh hm K hK
noncomputable def kU (rf:Rf) (f:Nat) (q:List V×V):Bool:=aL (q.1.all V.free&&q.2.free) (Cz.rec (motive:=fun _=>Bool) false (fun v' _=>fJ v' q.2) (rf f q.1 (.mk 0 .nil))) false
theorem runPure_ok {rf:Rf} (hA:Ai rf (aB P)) {f:Nat} {q:List V×V} (h:kU rf f q=true) (hh:aA) (K:V->aA->Prop) (hK:K q.2 hh):aB P f q.1 hh K:=by
 unfold kU at h
 rw [bM] at h
 split at h
 case isFalse=>cases h
 rename_i DA
 simp only [Bool.and_eq_true] at DA
 cases hq:rf f q.1 (.mk 0 .nil) with
 |none=>rw [hq] at h;cases h
 |some v' m'=>
  rw [hq] at h
  refine aB.frame (hA f q.1 _ v' _ hq zK ⟨rfl,fun _ _ e=>by cases e⟩ (fun v _=>v=v') fun _ _=>rfl) DA.1 fun v h' hv=>?_
  subst hv
  rw [kS _ _ (show fJ v q.2=true from h)]
  exact ⟨DA.2,hK⟩
end
open Go
def SG (M:Md) (ln:Nat) (st:St):Prop:=st.g.next=M.n/\st.l.next=ln/\∀ k o,(k,o)∈M.g->st.g.get k=some o
def At (S:Sd) (X:Fr->St->Prop):Prop:=∀ fr st,Fr.le (Aj S.fr []) fr->SG S.m S.ln st->X fr st
noncomputable def Pa (f:Fc) (l:List (Nat×V)):Bool:=List.rec (motive:=fun _=>Bool) true (fun q _ ih=>bQ (fJ ((hU q.1).run f) q.2) ih) l
noncomputable def SH (T:Sd) (f:Fc) (m:SM):Bool:=m.Rk fun gn g ln _=>bQ (Nat.beq ln T.ln) (bQ (Ak T.m gn g) (Pa f T.fr))
theorem covR_ok {f:Fc}:∀ {l:List (Nat×V)},Pa f l=true->∀ n v,(n,v)∈l->(hU n).run f=v
 |[],_,_,_,hm=>by cases hm
 |(j,u)::r,h,n,v,hm=>by
  obtain ⟨h1,h2⟩:=bD (show bQ (fJ ((hU j).run f) u) (Pa f r)=true from h)
  cases hm with
  |head=>exact kS _ _ h1
  |tail _ hm=>exact covR_ok h2 n v hm
theorem covS_ok {T:Sd} {f:Fc} {m:SM} (h:SH T f m=true) {fr:Fr} {st:St} (hf:n0 f fr) (hs:eC m st):Fr.le (Aj T.fr []) fr/\SG T.m T.ln st:=by
 obtain ⟨gn,g,ln,l⟩:=m
 obtain ⟨h1,h2⟩:=bD (show bQ (Nat.beq ln T.ln) (bQ (Ak T.m gn g) (Pa f T.fr))=true from h)
 obtain ⟨h2,h3⟩:=bD h2
 obtain ⟨h4,h5⟩:=bD h2
 refine ⟨fun t=>?_,hs.1.trans (gG h4),hs.2.1.trans (gG h1),fun k o hk=>hs.2.2.1 k o (covG_ok h5 k o hk)⟩
 rcases DQ (n:=t) T.fr [] with ⟨v,a1,a2⟩|a
 · refine .inl ?_
   rw [a2,<-hf t,covR_ok h3 t v a1]
 · exact .inr a
theorem GO {α:Type} (M:Md):∃ t,(∀ k:TH->α,B6 M.g .nil k=k t)/\∀ ln st,SG M ln st->eC (.mk M.n t ln .nil) st:=by
 obtain ⟨t,e1,e2⟩:=memK_ok (α:=α) M.g .nil
 exact ⟨t,e1,fun ln st hm=>⟨hm.1,hm.2.1,fun k o hk=>(e2 k o hk).elim (hm.2.2 k o) (fun e=>by cases e),fun _ _ e=>by cases e⟩⟩
theorem Vv:n0 HN []:=fun n=>GC n
noncomputable def Bd (gc:fM (Fc->SM->(SM->Rz)->Rz)) (b:Rg) (rf:Rf) (n:Nat):Fc->SM->Rz:=Nat.rec (motive:=fun _=>Fc->SM->Rz) (fun f m=>.sH f m) (fun _ ih f m=>gc.run f m fun m=>mU (b.run rf f m) ih) n
section
variable {A:aX} {gc:fM (Fc->SM->(SM->Rz)->Rz)} (wC:B5 gc) {rf:Rf} (hA:Ai rf A)
include hA
theorem B7 {a b:AC} {Q:Ex->Fr->St->Prop} {f f1:Fc} {m m1:SM} {fr:Fr} {st:St} (h:(cN fF a).run rf f m=.sH f1 m1) (hf:n0 f fr) (hs:eC m st) (hb:∀ fr st,n0 f1 fr->eC m1 st->pT A b Q fr st):pT A (.seq a b) Q fr st:=
 code2_ok noGc_ok hA a f m fr st _ (mJ (pT A b Q) Q) h (fun e=>by cases e) hf hs fun e bH aR hk=>by
  obtain ⟨rfl,x,y⟩:=hk
  exact hb _ _ x y
include wC
theorem DT {B:AC} {Q:Ex->Fr->St->Prop} {R:Fr->St->Prop} (hR:∀ fr bH st,Fr.le bH fr->pT A B (mJ R Q) bH st->R fr st) {r:Rz} (hr:r≠.none)
 (hN:∀ f m,r=.sH f m->∀ fr st,n0 f fr->eC m st->R fr st) (hE:∀ e fr st,e≠.normal->Yb r e fr st->Q e fr st):
 ∀ (n:Nat) (f:Fc) (m:SM) (fY fr:Fr) (st:St),Bd gc (cN fF B) rf (n+1) f m=r->Fr.le fY fr->n0 f fY->eC m st->R fr st:=by
 intro n
 induction n with
 |zero=>
  intro f m fY fr st h hle hf hs
  replace h:gc.run f m (fun m=>mU ((cN fF B).run rf f m) fun f m=>.sH f m)=r:=h
  obtain ⟨m1,h1,hm⟩:=wC _ _ _ _ h hr
  refine hR fr fY st hle ?_
  cases hb:(cN fF B).run rf f m1 with
  |none=>rw [hb] at h1;exact absurd h1.symm hr
  |sH f2 m2=>
   rw [hb] at h1
   refine code2_ok noGc_ok hA B f m1 fY st _ _ hb (fun e=>by cases e) hf (hm st hs) fun e bH aR hk=>?_
   obtain ⟨rfl,a,b⟩:=hk
   exact hN f2 m2 h1.symm _ _ a b
  |exit id f2 m2=>
   rw [hb] at h1
   refine code2_ok noGc_ok hA B f m1 fY st _ _ hb (fun e=>by cases e) hf (hm st hs) fun e bH aR hk=>?_
   have jG:=hk
   obtain ⟨rfl,_⟩:=jG
   have h1:r=.exit id f2 m2:=h1.symm
   subst h1
   exact hE _ _ _ (fun e=>by cases e) hk
  |ret f2 m2=>
   rw [hb] at h1
   refine code2_ok noGc_ok hA B f m1 fY st _ _ hb (fun e=>by cases e) hf (hm st hs) fun e bH aR hk=>?_
   have jG:=hk
   obtain ⟨rfl,_⟩:=jG
   have h1:r=.ret f2 m2:=h1.symm
   subst h1
   exact hE _ _ _ (fun e=>by cases e) hk
 |succ n ih=>
  intro f m fY fr st h hle hf hs
  replace h:gc.run f m (fun m=>mU ((cN fF B).run rf f m) (Bd gc (cN fF B) rf (n+1)))=r:=h
  obtain ⟨m1,h1,hm⟩:=wC _ _ _ _ h hr
  refine hR fr fY st hle ?_
  cases hb:(cN fF B).run rf f m1 with
  |none=>rw [hb] at h1;exact absurd h1.symm hr
  |sH f2 m2=>
   rw [hb] at h1
   refine code2_ok noGc_ok hA B f m1 fY st _ _ hb (fun e=>by cases e) hf (hm st hs) fun e bH aR hk=>?_
   obtain ⟨rfl,a,b⟩:=hk
   exact ih f2 m2 bH bH aR h1 (Fr.le_refl _) a b
  |exit id f2 m2=>
   rw [hb] at h1
   refine code2_ok noGc_ok hA B f m1 fY st _ _ hb (fun e=>by cases e) hf (hm st hs) fun e bH aR hk=>?_
   have jG:=hk
   obtain ⟨rfl,_⟩:=jG
   have h1:r=.exit id f2 m2:=h1.symm
   subst h1
   exact hE _ _ _ (fun e=>by cases e) hk
  |ret f2 m2=>
   rw [hb] at h1
   refine code2_ok noGc_ok hA B f m1 fY st _ _ hb (fun e=>by cases e) hf (hm st hs) fun e bH aR hk=>?_
   have jG:=hk
   obtain ⟨rfl,_⟩:=jG
   have h1:r=.ret f2 m2:=h1.symm
   subst h1
   exact hE _ _ _ (fun e=>by cases e) hk
end
noncomputable def aN (gc:fM (Fc->SM->(SM->Rz)->Rz)) (B:AC) (rf:Rf) (n:Nat) (S T:Sd):Bool:=
 B6 S.m.g .nil fun t=>W4 false S.fr HN fun f=>Rz.rec (motive:=fun _=>Bool) false (fun f m=>SH T f m) (fun _ _ _=>false) (fun _ _=>false) (Bd gc (cN fF B) rf (Nat.succ n) f (.mk S.m.n t S.ln .nil))
noncomputable def SI (rs:List RV) (v:V) (M:Md) (r:Rz):Bool:=
 Rz.rec (motive:=fun _=>Bool) false (fun f m=>Cz.rec (motive:=fun _=>Bool) false (fun v' mm=>Mem.rec (motive:=fun _=>Bool) (fun n t=>bQ (fJ v' v) (Ak M n t)) mm) ((BS rs).run f m)) (fun _ _ _=>false)
  (fun f m=>Cz.rec (motive:=fun _=>Bool) false (fun v' mm=>Mem.rec (motive:=fun _=>Bool) (fun n t=>bQ (fJ v' v) (Ak M n t)) mm) ((BS rs).run f m)) r
noncomputable def mO (gc:fM (Fc->SM->(SM->Rz)->Rz)) (B X:AC) (rs:List RV) (rf:Rf) (n id:Nat) (S:Sd) (v:V) (M:Md):Bool:=
 B6 S.m.g .nil fun t=>W4 false S.fr HN fun f=>Rz.rec (motive:=fun _=>Bool) false (fun _ _=>false) (fun j f m=>bQ (Nat.beq j id) (SI rs v M ((cN fF X).run rf f m))) (fun _ _=>false) (Bd gc (cN fF B) rf (Nat.succ n) f (.mk S.m.n t S.ln .nil))
noncomputable def tW (A1 A2 A3:AC) (rf:Rf) (np:Nat) (args:List V) (M:Md) (S:Sd):Bool:=
 bQ (Nat.beq (bY args) np) (B6 M.g .nil fun t=>Rz.rec (motive:=fun _=>Bool) false (fun f m=>SH S f m) (fun _ _ _=>false) (fun _ _=>false)
  (Rl args 0 HN fun f=>mU ((cN fF A1).run rf f (.mk M.n t 0 .nil)) fun f m=>mU ((cN fF A2).run rf f m) fun f m=>(cN fF A3).run rf f m))
section
variable {A:aX} {gc:fM (Fc->SM->(SM->Rz)->Rz)} (wC:B5 gc) {rf:Rf} (hA:Ai rf A)
include wC hA
theorem runCh_ok {B:AC} {n:Nat} {S T:Sd} (h:aN gc B rf n S T=true) {Q:Ex->Fr->St->Prop} (hT:At T (pT A (.loop B) Q)):At S (pT A (.loop B) Q):=by
 intro fr st hle hs
 simp only [pT]
 intro R hR
 obtain ⟨t,e1,e2⟩:=GO (α:=Bool) S.m
 unfold aN at h
 rw [e1] at h
 obtain ⟨f,h,hf⟩:=frK_ok (by decide) S.fr HN _ h
 cases hq:Bd gc (cN fF B) rf (Nat.succ n) f (.mk S.m.n t S.ln .nil) with
 |sH f' m'=>
  rw [hq] at h
  refine DT wC hA hR (r:=.sH f' m') (fun e=>by cases e) (fun f m e fr st hf hs=>?_) (fun e fr st cO hk=>absurd hk.1 cO) n f _ _ fr st hq hle (hf [] Vv) (e2 _ st hs)
  cases e
  obtain ⟨a,b⟩:=covS_ok h hf hs
  have:=hT fr st a b
  simp only [pT] at this
  exact this R hR
 |none=>rw [hq] at h;cases h
 |exit id f' m'=>rw [hq] at h;cases h
 |ret f' m'=>rw [hq] at h;cases h
omit wC hA in
theorem endB_ok {rs:List RV} {v:V} {M:Md} {r:Rz} (h:SI rs v M r=true) {K:V->aA->Prop} (hK:∀ h',FR M h'->K v h'):r≠.none/\∀ e fr st,Yb r e fr st->mK rs K e fr st:=by
 have fin:∀ {f:Fc} {m:SM},Cz.rec (motive:=fun _=>Bool) false (fun v' mm=>Mem.rec (motive:=fun _=>Bool) (fun n t=>bQ (fJ v' v) (Ak M n t)) mm) ((BS rs).run f m)=true->
  ∀ {fr:Fr} {st:St},n0 f fr->eC m st->rJ fr st rs=some v/\K v st.g:=by
  intro f m h fr st hf hs
  cases hq:(BS rs).run f m with
  |none=>rw [hq] at h;cases h
  |some v' mm=>
   rw [hq] at h
   obtain ⟨n,t⟩:=mm
   obtain ⟨h1,h2⟩:=bD (show bQ (fJ v' v) (Ak M n t)=true from h)
   obtain ⟨h3,h4⟩:=endC_ok hf hs hq
   rw [kS _ _ h1] at h3
   exact ⟨h3,hK _ (covM_ok h2 h4)⟩
 cases r with
 |none=>cases h
 |exit id f m=>cases h
 |sH f m=>
  refine ⟨(fun e=>by cases e),fun e fr st hk=>?_⟩
  obtain ⟨rfl,a,b⟩:=hk
  obtain ⟨h1,h2⟩:=fin h a b
  simp only [mK,h1]
  exact h2
 |ret f m=>
  refine ⟨(fun e=>by cases e),fun e fr st hk=>?_⟩
  obtain ⟨rfl,a,b⟩:=hk
  obtain ⟨h1,h2⟩:=fin h a b
  simp only [mK,h1]
  exact h2
theorem runLast_ok {B X:AC} {rs:List RV} {n id:Nat} {S:Sd} {v:V} {M:Md} (h:mO gc B X rs rf n id S v M=true) {K:V->aA->Prop} (hK:∀ h',FR M h'->K v h'):
 At S (pT A (.loop B) (gA id (mJ (pT A X (mK rs K)) (mK rs K)))):=by
 intro fr st hle hs
 simp only [pT]
 intro R hR
 obtain ⟨t,e1,e2⟩:=GO (α:=Bool) S.m
 unfold mO at h
 rw [e1] at h
 obtain ⟨f,h,hf⟩:=frK_ok (by decide) S.fr HN _ h
 cases hq:Bd gc (cN fF B) rf (Nat.succ n) f (.mk S.m.n t S.ln .nil) with
 |exit j f' m'=>
  rw [hq] at h
  obtain ⟨h1,h2⟩:=bD (show bQ (Nat.beq j id) (SI rs v M ((cN fF X).run rf f' m'))=true from h)
  have h1:=gG h1
  subst h1
  refine DT wC hA hR (r:=.exit j f' m') (fun e=>by cases e) (fun f m e=>by cases e) (fun e fr st cO hk=>?_) n f _ _ fr st hq hle (hf [] Vv) (e2 _ st hs)
  obtain ⟨rfl,a,b⟩:=hk
  obtain ⟨g1,g2⟩:=endB_ok h2 hK
  simp only [gA,if_pos]
  exact code2_ok noGc_ok hA X f' m' fr st _ _ rfl g1 a b g2
 |none=>rw [hq] at h;cases h
 |sH f' m'=>rw [hq] at h;cases h
 |ret f' m'=>rw [hq] at h;cases h
end
theorem cut_ok {P:Program} {rf:Rf} (hA:Ai rf (aB P)) {f:Nat} {F:aC} (hk:gB P f F=true) {A1 A2 A3 B X:AC} {id:Nat} (hb:F.body=.seq A1 (.seq A2 (.seq (.seq A3 (.aW id (.loop B))) X))) {args:List V} {M:Md} {v:V} {M':Md} {S:Sd}
 (FB:tW A1 A2 A3 rf F.nparams args M S=true) (Vw:∀ K:V->aA->Prop,(∀ h',FR M' h'->K v h')->At S (pT (aB P) (.loop B) (gA id (mJ (pT (aB P) X (mK F.results K)) (mK F.results K))))):Fact P f args M v M':=by
 intro h hM K hK
 obtain ⟨n1,h2⟩:=bD FB
 have n1:=gG n1
 rw [bE] at n1
 refine fn_ok hk n1 ?_
 rw [hb]
 obtain ⟨t,e1,e2⟩:=DS (α:=Bool) M
 rw [e1] at h2
 cases hq:Rl args 0 HN fun f=>mU ((cN fF A1).run rf f (.mk M.n t 0 .nil)) fun f m=>mU ((cN fF A2).run rf f m) fun f m=>(cN fF A3).run rf f m with
 |none=>rw [hq] at h2;cases h2
 |exit id f' m'=>rw [hq] at h2;cases h2
 |ret f' m'=>rw [hq] at h2;cases h2
 |sH f' m'=>
  rw [hq] at h2
  obtain ⟨f0,hc,pS⟩:=tV (by intro e;cases e) hq
  cases Vx:(cN fF A1).run rf f0 (.mk M.n t 0 .nil) with
  |none=>rw [Vx] at hc;cases hc
  |exit id f1 m1=>rw [Vx] at hc;cases hc
  |ret f1 m1=>rw [Vx] at hc;cases hc
  |sH f1 m1=>
   rw [Vx] at hc
   replace hc:mU ((cN fF A2).run rf f1 m1) (fun f m=>(cN fF A3).run rf f m)=.sH f' m':=hc
   cases Ox:(cN fF A2).run rf f1 m1 with
   |none=>rw [Ox] at hc;cases hc
   |exit id f2 m2=>rw [Ox] at hc;cases hc
   |ret f2 m2=>rw [Ox] at hc;cases hc
   |sH f2 m2=>
    rw [Ox] at hc
    replace hc:(cN fF A3).run rf f2 m2=.sH f' m':=hc
    refine B7 hA Vx pS (noL_ok (e2 h hM)) fun AU IN a1 b1=>?_
    refine B7 hA Ox a1 b1 fun Oq Gl a2 b2=>?_
    show pT (aB P) (.seq A3 (.aW id (.loop B))) (mJ (pT (aB P) X (mK F.results K)) (mK F.results K)) Oq Gl
    refine B7 hA hc a2 b2 fun fr3 st3 a3 b3=>?_
    obtain ⟨x,y⟩:=covS_ok h2 a3 b3
    exact Vw K hK fr3 st3 x y
open Go
abbrev Oc:=fM (Rf->List V->Mem->Cz)
noncomputable def HQ (l:List V) (k:V->Cz) (e:Cz):Cz:=List.rec (motive:=fun _=>Cz) e (fun a r _=>List.rec (motive:=fun _=>Cz) (k a) (fun _ _ _=>e) r) l
noncomputable def FU (l:List V) (k:V->V->Cz) (e:Cz):Cz:=List.rec (motive:=fun _=>Cz) e (fun a r _=>List.rec (motive:=fun _=>Cz) e (fun b q _=>List.rec (motive:=fun _=>Cz) (k a b) (fun _ _ _=>e) q) r) l
noncomputable def Vy (l:List V) (k:V->V->V->Cz) (e:Cz):Cz:=List.rec (motive:=fun _=>Cz) e (fun a r _=>FU r (fun b c=>k a b c) e) l
noncomputable def SJ (m:Mem) (key:Key) (k:Nat->Nat->TH->Obj->Cz):Cz:=j5 key (fun a=>Mem.rec (motive:=fun _=>Cz) (fun n t=>aZ (t.get a a) Cz.none fun o=>k a n t o) m) fun _=>.none
noncomputable def sO (m:Mem) (key:Key) (k:Nat->Nat->TH->List V->Cz):Cz:=SJ m key fun a n t o=>A8 (fun c=>k a n t c) (fun _ _=>.none) .none (fun _ _=>.none) o
noncomputable def SK (m:Mem) (key:Key) (k:List (V×V)->Cz):Cz:=SJ m key fun _ _ _ o=>A8 (fun _=>.none) (fun _ _=>.none) .none (fun kd es=>aZ kd (k es) fun _=>.none) o
noncomputable def Rs (o:Option V) (v:V):Bool:=aZ o false fun u=>fJ u v
noncomputable def B8 (v:V) (k:Key->Nat->Cz):Cz:=vP .none k (fun _ _ _ _=>.none) (fun _ _=>.none) v
noncomputable def Rt:Oc:=⟨fun rf args m=>FU args (fun p g=>vF .none (fun g first cap=>B8 p fun key off=>sO m key fun a n t c=>
 aL (Rs (fU c off) (.i .u32 (.ofNat 1))) (.some (.bO []) m) (aL (bQ (Rs (fU c off) (.i .u32 (.ofNat 0))) (Rs (fU c (Nat.succ off)) (.i .i32 (.ofNat 0))))
  (spell (mM c (Nat.succ off) [.i .i32 (.ofNat 1)]) fun c=>TH.put a (.cs c) t a 1 fun t=>Cz.rec (motive:=fun _=>Cz) .none (fun _ m=>sO m (.g a) fun _ n t c=>
    aL (bQ (Rs (fU c off) (.i .u32 (.ofNat 0))) (Rs (fU c (Nat.succ off)) (.i .i32 (.ofNat 1)))) (spell (mM c off [.i .u32 (.ofNat 1),.i .i32 (.ofNat 0)]) fun c=>TH.put a (.cs c) t a 1 fun t=>.some (.bO []) (.mk n t)) .none) (rf g (pV first cap) (.mk n t))) .none)) g) .none⟩
noncomputable def Vz:Oc:=⟨fun _ args m=>FU args (fun p d=>B8 p fun key off=>sO m key fun a n t c=>aZ (fU c off) Cz.none fun x=>eG .none (fun k y=>aL (lA k .i64) (eG .none (fun k z=>aL (lA k .i64) (iC (fun w=>nX w fun w=>spell (mM c off [.i .i64 (.ofNat w)]) fun c=>TH.put a (.cs c) t a 1 fun t=>Cz.some (.i .i64 (.ofNat w)) (.mk n t)) (fun _=>Cz.none) (wr .i64 (Sn y z))) .none) d) .none) x) .none⟩
noncomputable def KI (x:List UInt8) (l:List (List UInt8)):List (List UInt8):=List.rec (motive:=fun _=>List (List UInt8)) [x] (fun y r ih=>aL (EU y x) (y::ih) (x::y::r)) l
noncomputable def KJ (es:List (V×V)) (k:List (List UInt8)->Cz):Cz:=List.rec (motive:=fun _=>(List (List UInt8)->Cz)->Cz) (fun k=>k []) (fun q _ ih k=>jD .none (fun x=>aL (Nat.ble (bY x) 9223372036854775807) (ih fun l=>spell (KI x l) k) .none) q.1) es k
noncomputable def Ye (l:List (List UInt8)):Bool:=List.rec (motive:=fun _=>Bool) true (fun x r ih=>List.rec (motive:=fun _=>Bool) true (fun y _ _=>bQ (EU x y) ih) r) l
noncomputable def KK (l:List (List UInt8)):List (List V):=List.rec (motive:=fun _=>List (List V)) [] (fun x _ ih=>[.s x]::ih) l
noncomputable def GP (keys:Nat):Oc:=⟨fun _ args m=>HQ args (fun q=>vF .none (fun f fi ca=>aL (bQ (Nat.beq f keys) (Nat.beq (bY fi) 0)) (HQ ca (fun p=>B8 p fun key off=>aL (Nat.beq off 0) (sO m key fun _ _ _ c=>aZ (fU c 0) Cz.none fun x=>vM .none (.some .bU m) (fun key=>SK m key fun es=>
 KJ es fun l=>aL (bQ (Ye l) (Nat.ble (bY l) 1000000)) (spell (KK l) fun r=>.some (.sl none 1 r) m) .none) x) .none) .none) .none) q) .none⟩
noncomputable def VA:Oc:=⟨fun _ args m=>FU args (fun a b=>jD .none (fun a=>jD .none (fun b=>.some (.i .i64 (aL (EU a b) (.negSucc 0) (aL (BN a b) (.ofNat 0) (.ofNat 1)))) m) b) a) .none⟩
noncomputable def KL (eU:Oc):Oc:=⟨fun rf args m=>HQ args (fun v=>vL (eU.run rf args m) (fun _=>eU.run rf args m) (eU.run rf args m) (fun t z es=>aZ t (aL (bQ (Nat.beq z 1) (Nat.ble (bY es) 1000000000)) (aZ (tK es) (eU.run rf args m) fun _=>.some (.sl none 1 es) m) (eU.run rf args m)) fun _=>eU.run rf args m) (fun _ _ _ _=>eU.run rf args m) v) .none⟩
noncomputable def preB (p s:List UInt8):Bool:=List.rec (motive:=fun _=>List UInt8->Bool) (fun _=>true) (fun c _ ih s=>List.rec (motive:=fun _=>Bool) false (fun d r _=>bQ (Nat.beq (u8N c) (u8N d)) (ih r)) s) p s
noncomputable def pL (key:List UInt8) (rev:Int) (es:List (V×V)) (k:Bool->Cz):Cz:=List.rec (motive:=fun _=>(Bool->Cz)->Cz) (fun k=>k true) (fun q _ ih k=>jD .none (fun s=>aL (Nat.ble (bY s) 9223372036854775807) (eG .none (fun kd n=>aL (lA kd .i64) (aL (bQ (ET rev n) (preB key s)) (ih fun _=>k false) (ih k)) .none) q.2) .none) q.1) es k
noncomputable def KM (o:Option V) (k:Int->Cz):Cz:=aZ o Cz.none fun x=>eG .none (fun kd n=>aL (lA kd .i64) (k n) .none) x
noncomputable def SL (o:Option V) (k:Nat->Cz):Cz:=aZ o Cz.none fun x=>vM .none .none (fun key=>j5 key k fun _=>.none) x
noncomputable def VB (o:Option V) (k:List UInt8->Cz):Cz:=aZ o Cz.none fun x=>jD .none (fun s=>aL (Nat.ble (bY s) 9223372036854775807) (k s) .none) x
noncomputable def VC (o:Option V) (k:Nat->Cz):Cz:=aZ o Cz.none fun x=>B8 x fun key off=>aL (Nat.beq off 0) (j5 key k fun _=>.none) .none
noncomputable def KN (c:List V) (k:Nat->Cz):Cz:=aL (Nat.beq (bY c) 6) (KM (fU c 0) fun _=>SL (fU c 1) fun _=>SL (fU c 2) fun m1=>VC (fU c 3) fun _=>KM (fU c 4) fun _=>KM (fU c 5) fun _=>k m1) .none
noncomputable def KO (eU:Oc):Oc:=⟨fun rf args m=>FU args (fun p g=>vA .none (fun cs=>aL (Rs (fU cs 2) (.b true)) (aL (Nat.beq (bY cs) 3) (B8 p fun key off=>aL (Nat.beq off 0) (sO m key fun _ _ _ c=>KN c fun mk=>SK m (.g mk) fun es=>
 VB (fU cs 0) fun kx=>KM (fU cs 1) fun r=>pL kx r es fun b=>.some (.b b) m) .none) .none) (eU.run rf args m)) g) .none⟩
noncomputable def SN (p c:List V) (k:List V->Cz) (e:Cz):Cz:=List.rec (motive:=fun _=>List V->Cz) (fun c=>k c) (fun x _ ih c=>List.rec (motive:=fun _=>Cz) e (fun y r _=>aL (fJ x y) (ih r) e) c) p c
noncomputable def KP (tF tT:List V):Oc:=⟨fun _ args m=>HQ args (fun p=>B8 p fun key off=>aL (Nat.beq off 0) (sO m key fun a n t c=>
 aL (Rs (fU c 0) (.i .u32 (.ofNat 1))) (nX (Nat.add n 1) fun n=>.some (.bO []) (.mk n t)) (SN tF c (fun r=>spell (pV tT r) fun c=>TH.put a (.cs c) t a 1 fun t=>nX (Nat.add n 2) fun n=>.some (.bO []) (.mk n t)) .none)) .none) .none⟩
noncomputable def Pb (size n:Nat) (acc:List (List V)):List (List V):=Nat.rec (motive:=fun _=>Nat->List (List V)->List (List V)) (fun _ acc=>acc) (fun _ ih n acc=>nX (Nat.mod n 256) fun b=>nX (Nat.div n 256) fun n=>ih n ([.i .u8 (.ofNat b)]::acc)) size n acc
noncomputable def KQ (a n w s:Nat) (c:List V) (es:List (List V)) (t:TH):Cz:=nX (Nat.add n (Nat.mul 2 s)) fun n2=>nX (Nat.sub n2 1) fun tok=>spell (pV es (Pb s w [])) fun es2=>spell (mM c 297 [.sl (some (.g tok)) 1 es2]) fun c=>TH.put tok .spare t tok 1 fun t=>TH.put a (.cs c) t a 1 fun t=>.some (.bO []) (.mk n2 t)
noncomputable def Ru (eU:Oc):Oc:=⟨fun rf args m=>Vy args (fun p nv sv=>B8 p fun key off=>aL (Nat.beq off 0) (eG .none (fun kd z=>aL (lA kd .i64) (iC (fun w=>eG .none (fun kd sz=>aL (lA kd .i64) (iC (fun s=>aL (bQ (Nat.ble 1 s) (Nat.ble s 8)) (sO m key fun a n t c=>aZ (fU c 297) Cz.none fun x=>
 vL .none (fun _=>.none) (KQ a n w s c [] t) (fun tk z es=>aZ tk Cz.none fun kk=>j5 kk (fun k0=>aL (bQ (Nat.beq z 1) (Nat.ble (bY es) 100000000)) (aZ (t.get k0 k0) Cz.none fun o=>A8 (fun _=>.none) (fun _ _=>.none) (TH.del k0 t k0 fun t=>KQ a n w s c es t) (fun _ _=>.none) o) .none) fun _=>.none) (fun _ _ _ _=>.none) x) .none) (fun _=>.none) sz) .none) sv) (fun _=>eU.run rf args m) z) .none) nv) .none) .none⟩
noncomputable def Yf (s:Nat) (es:List (List V)) (acc:Nat) (k:Nat->List (List V)->Cz) (e:Cz):Cz:=Nat.rec (motive:=fun _=>List (List V)->Nat->Cz) (fun es acc=>k acc es) (fun _ ih es acc=>List.rec (motive:=fun _=>Cz) e (fun x q _=>HQ x (fun v=>eG .none (fun kd z=>aL (lA kd .u8) (iC (fun b=>aL (Nat.ble b 255) (nX (Nat.add (Nat.mul acc 256) b) fun acc=>ih q acc) .none) (fun _=>.none) z) .none) v) .none) es) s es acc
noncomputable def Rv (eU:Oc):Oc:=⟨fun rf args m=>FU args (fun p sv=>B8 p fun key off=>aL (Nat.beq off 0) (eG .none (fun kd sz=>aL (lA kd .i64) (iC (fun s=>aL (Nat.ble s 8) (sO m key fun a n t c=>aZ (fU c 297) Cz.none fun x=>
 vL .none (fun _=>.none) (eU.run rf args m) (fun tk z es=>aZ tk (aL (bQ (Nat.beq z 1) (Nat.ble (bY es) 1000000000)) (Yf s es 0 (fun acc r=>aL (Nat.ble acc 9223372036854775807) (spell (mM c 297 [.sl none 1 r]) fun c=>TH.put a (.cs c) t a 1 fun t=>.some (.i .i64 (.ofNat acc)) (.mk n t)) .none) (eU.run rf args m)) .none) fun _=>.none) (fun _ _ _ _=>.none) x) .none) (fun _=>.none) sz) .none) sv) .none) .none⟩
end Go.Eng
