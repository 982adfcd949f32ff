/-
Quiet operations: what they yield hangs on nothing but their operands and the objects that they look at.
-/
import Derived.Test.YtdjbjnnfmkoceaaGreatX00
set_option linter.unusedVariables false
set_option linter.unusedSimpArgs false
namespace Go.Eng
open Go
mutual
theorem V.beq_eq:∀ {v u:V},V.beq v u=true->v=u
 |.b x,u,h=>by cases u<;>simp [V.beq] at h<;>simp [h]
 |.i k n,u,h=>by cases u<;>simp [V.beq] at h<;>simp [h]
 |.s x,u,h=>by cases u<;>simp [V.beq] at h<;>simp [h]
 |.dZ,u,h=>by cases u<;>simp [V.beq] at h<;>rfl
 |.p k o,u,h=>by cases u<;>simp [V.beq] at h<;>simp [h]
 |.pa k z j o,u,h=>by cases u<;>simp [V.beq] at h<;>simp [h]
 |.pc _ _,u,h=>by cases u<;>simp [V.beq] at h
 |.bU,u,h=>by cases u<;>simp [V.beq] at h<;>rfl
 |.sl t z es,u,h=>by
  cases u<;>simp [V.beq] at h
  have:=V.Dl h.2
  simp [h.1,this]
 |.ms k z u' l,u,h=>by cases u<;>simp [V.beq] at h<;>simp [h]
 |.cY,u,h=>by cases u<;>simp [V.beq] at h<;>rfl
 |.m k,u,h=>by cases u<;>simp [V.beq] at h<;>simp [h]
 |.fn _ _ _,u,h=>by cases u<;>simp [V.beq] at h
 |.eA,u,h=>by cases u<;>simp [V.beq] at h<;>rfl
 |.agg cs,u,h=>by
  cases u<;>simp [V.beq] at h
  rw [V.wL h]
 |.bO cs,u,h=>by
  cases u<;>simp [V.beq] at h
  rw [V.wL h]
 |.a8,u,h=>by cases u<;>simp [V.beq] at h
theorem V.wL:∀ {l r:List V},V.EV l r=true->l=r
 |[],r,h=>by cases r<;>simp [V.EV] at h<;>rfl
 |v::l,r,h=>by
  cases r<;>simp [V.EV] at h
  rw [V.beq_eq h.1,V.wL h.2]
theorem V.Dl:∀ {l r:List (List V)},V.CU l r=true->l=r
 |[],r,h=>by cases r<;>simp [V.CU] at h<;>rfl
 |v::l,r,h=>by
  cases r<;>simp [V.CU] at h
  rw [V.wL h.1,V.Dl h.2]
end
def T.bS (st:St):T R->Prop
 |.ret r=>r.2=st
 |.ite _ a b=>a.bS st/\b.bS st
 |.elem _ k=>∀ x,(k x).bS st
 |.byte _ k=>∀ x,(k x).bS st
 |.eU _ k=>∀ x,(k x).bS st
 |.CQ _ k=>∀ x,(k x).bS st
 |.obj _ k=>∀ x,(k x).bS st
 |.jR _ n k=>n.bS st/\∀ x,(k x).bS st
 |.jE _ k=>k.bS st
 |.wrap _ _ k=>∀ x,(k x).bS st
 |.any _=>False
 |.same _ _ k=>k.bS st
 |.call _ _ _ _=>False
 |.fail=>True
def T.Yields (A:aX) (st:St) (t:T R) (v:V):Prop:=∀ K:R->Prop,K (v,st)->t.wp A K
theorem T.cU {st:St} {A:aX}:∀ {t:T R} {K:R->Prop},t.bS st->t.wp A K->∃ v,t.Yields A st v/\K (v,st)
 |.ret r,K,hq,h=>by
  obtain ⟨v,s⟩:=r
  simp only [T.bS] at hq
  subst hq
  exact ⟨v,fun K' h'=>h',h⟩
 |.ite c a b,K,hq,h=>by
  cases c with
  |true=>
   obtain ⟨v,h1,h2⟩:=T.cU hq.1 (h.1 rfl)
   exact ⟨v,fun K' h'=>uH rfl (h1 K' h'),h2⟩
  |false=>
   obtain ⟨v,h1,h2⟩:=T.cU hq.2 (h.2 rfl)
   exact ⟨v,fun K' h'=>rO rfl (h1 K' h'),h2⟩
 |.elem o k,K,hq,⟨x,hx,h⟩=>by
  obtain ⟨v,h1,h2⟩:=T.cU (hq x) h
  exact ⟨v,fun K' h'=>⟨x,hx,h1 K' h'⟩,h2⟩
 |.byte o k,K,hq,⟨x,hx,h⟩=>by
  obtain ⟨v,h1,h2⟩:=T.cU (hq x) h
  exact ⟨v,fun K' h'=>⟨x,hx,h1 K' h'⟩,h2⟩
 |.eU o k,K,hq,⟨x,hx,h⟩=>by
  obtain ⟨v,h1,h2⟩:=T.cU (hq x) h
  exact ⟨v,fun K' h'=>⟨x,hx,h1 K' h'⟩,h2⟩
 |.CQ o k,K,hq,⟨x,hx,h⟩=>by
  obtain ⟨v,h1,h2⟩:=T.cU (hq x) h
  exact ⟨v,fun K' h'=>⟨x,hx,h1 K' h'⟩,h2⟩
 |.obj o k,K,hq,⟨x,hx,h⟩=>by
  obtain ⟨v,h1,h2⟩:=T.cU (hq x) h
  exact ⟨v,fun K' h'=>⟨x,hx,h1 K' h'⟩,h2⟩
 |.jR o n k,K,hq,h=>by
  cases o with
  |none=>
   obtain ⟨v,h1,h2⟩:=T.cU hq.1 (h.1 rfl)
   exact ⟨v,fun K' h'=>wX rfl (h1 K' h'),h2⟩
  |some x=>
   obtain ⟨v,h1,h2⟩:=T.cU (hq.2 x) (h.2 x rfl)
   exact ⟨v,fun K' h'=>EY rfl (h1 K' h'),h2⟩
 |.jE c k,K,hq,h=>by
  obtain ⟨v,h1,h2⟩:=T.cU (t:=k) hq h.2
  exact ⟨v,fun K' h'=>⟨h.1,h1 K' h'⟩,h2⟩
 |.wrap kd n k,K,hq,h=>by
  obtain ⟨v,h1,h2⟩:=T.cU (hq _) (jQ.1 h)
  exact ⟨v,fun K' h'=>.inl (h1 K' h'),h2⟩
 |.any k,K,hq,h=>hq.elim
 |.same v u k,K,hq,h=>by
  obtain ⟨x,h1,h2⟩:=T.cU (t:=k) hq h.2
  exact ⟨x,fun K' h'=>⟨h.1,h1 K' h'⟩,h2⟩
 |.call _ _ _ _,K,hq,h=>hq.elim
 |.fail,K,_,h=>h.elim
def eV:pQ->Bool
 |.mv _=>true
 |.IU _=>true
 |.pick _ _ _=>true
 |.IW _ _=>true
 |.load _ _=>true
 |.rG _=>true
 |.bin _ _ _=>true
 |.N8 _ _ _ _ _=>true
 |.un _ _=>true
 |.N9 _ _=>true
 |.Oa _=>true
 |.IY .fz _=>true
 |.IX .fz _ _ _ _=>true
 |.Ob _=>true
 |.Ga _=>true
 |.zL _ _=>true
 |.pW _ _ _=>true
 |.mY _ _ _ _ _=>true
 |.jS _ _=>true
 |.Hf _ _ _=>true
 |.zM _ _ _=>true
 |.zN _ _ _ _=>true
 |.Od _ _=>true
 |.IG _ _ _ _ _=>true
 |.IZ _ _ _ _ _=>true
 |.ext _ _=>true
 |.zP _=>true
 |.zQ _=>true
 |.zR _=>true
 |.zS _=>true
 |.rH _ _=>true
 |_=>false
theorem T.bN {α:Type} {st:St} {o:Option α} {k:α->T R} (h:∀ x,(k x).bS st):(T.opt o k).bS st:=by
 cases o with
 |none=>trivial
 |some x=>exact h x
theorem Aa {op:BinOp} {x y:V} {st:St}:(cK op x y st).bS st:=by
 unfold cK
 split
 · cases op<;>simp only [T.bS]<;>(try split)<;>simp [T.bS]
 · cases op<;>simp [T.bS]
 · trivial
theorem Ab {sz:Nat} {st:St} {v:V} {k:List (List V)->T R} (h:∀ x,(k x).bS st):(eD sz st v k).bS st:=by
 unfold eD
 split
 · exact h _
 · split
   · exact h _
   · trivial
 · split
   · intro o
     dsimp only
     split
     · split
       · exact h _
       · trivial
     · trivial
   · trivial
 · split
   · exact h _
   · trivial
 · trivial
theorem qK {o:pQ} (h:eV o=true) (fr:Fr) (st:St):(step o fr st).bS st:=by
 cases o<;>simp only [eV,Bool.false_eq_true] at h<;>simp only [step]
 case mv=>rfl
 case IU=>rfl
 case pick=>split<;>simp [T.bS]
 case IW=>exact T.bN fun _=>rfl
 case load=>
  split
  · intro o;dsimp only;split
    · exact T.bN fun _=>rfl
    · trivial
  · intro o;dsimp only;split
    · split
      · intro e;exact T.bN fun _=>rfl
      · trivial
    · trivial
  · exact T.bN fun _=>rfl
  · trivial
 case rG=>split<;>first|rfl|trivial
 case bin=>exact Aa
 case N8=>exact T.bN fun _=>T.bN fun _=>T.bN fun _=>by split<;>rfl
 case un=>split<;>simp [T.bS]
 case N9=>split<;>simp [T.bS]
 case Oa=>split<;>first|rfl|trivial
 case IY m x=>
  cases m<;>simp only [Bool.false_eq_true] at h
  split
  · intro e;rfl
  · trivial
 case IX m sz len zero parts=>
  cases m<;>simp only [Bool.false_eq_true] at h
  exact T.bN fun _ _=>rfl
 case Ob=>
  split
  · intro o;dsimp only;split<;>first|rfl|trivial
  · intro o;dsimp only
    split
    · split<;>first|rfl|trivial
    · trivial
  · trivial
 case Ga=>exact Ab fun _ _=>rfl
 case zL=>rfl
 case pW=>
  split
  · exact T.bN fun _=>T.bN fun _=>rfl
  · trivial
 case mY=>
  split
  · split
    · exact T.bN fun _=>T.bN fun _=>rfl
    · trivial
  · split
    · split
      · split
        · exact T.bN fun _=>rfl
        · exact T.bN fun _=>T.bN fun _=>rfl
      · trivial
    · trivial
  · split
    · exact T.bN fun _=>T.bN fun _=>by
       intro o
       dsimp only
       split
       · split
         · split
           · rfl
           · exact T.bN fun _=>rfl
         · trivial
       · trivial
    · trivial
  · trivial
 case jS=>split<;>first|rfl|trivial
 case Hf=>split<;>first|exact T.bN fun _=>rfl|trivial
 case zM=>
  split
  · split
    · split
      · intro e;rfl
      · trivial
    · split
      · rfl
      · trivial
    · trivial
  · trivial
 case zN=>
  split
  · simp only [T.bS];split<;>first|rfl|trivial
  · trivial
 case Od=>split<;>simp [T.bS]
 case IG=>
  split
  · exact T.bN fun _=>rfl
  · trivial
 case IZ=>
  split
  · split
    · unfold qE;split<;>simp [T.bS]
    · intro o;dsimp only;split
      · split
        · unfold qE;split<;>simp [T.bS]
        · trivial
      · trivial
    · trivial
  · trivial
 case ext=>split<;>first|exact T.bN fun _=>rfl|trivial
 case zP=>split<;>first|rfl|trivial
 case zQ=>split<;>first|rfl|trivial
 case zR=>rfl
 case zS=>
  split
  · rfl
  · intro o;dsimp only;split<;>first|rfl|trivial
  · trivial
 case rH=>split<;>first|exact T.bN fun _=>rfl|trivial
def xS:pQ->Bool
 |.load _ _=>false
 |.Ga _=>false
 |.Ob _=>false
 |.mY _ _ _ _ _=>false
 |.IZ _ _ _ _ _=>false
 |.zS _=>false
 |o=>eV o
theorem fE {α:Type} {A':aX} {o:Option α} {k k':α->T R} {K K':R->Prop} (h:∀ x,(k x).wp A' K->(k' x).wp A' K'):(T.opt o k).wp A' K->(T.opt o k').wp A' K':=by
 cases o with
 |none=>exact id
 |some x=>exact h x
theorem Bz {A':aX} {op:BinOp} {x y:V} {st aR:St} {K:R->Prop}:(cK op x y st).wp A' (fun r=>K (r.1,aR))->(cK op x y aR).wp A' K:=by
 unfold cK
 split
 · rename_i k a k' c
   by_cases hk:k=k'
   · subst hk
     cases op<;>simp only [if_true]<;>exact id
   · cases op<;>simp only [if_neg hk]<;>exact id
 · cases op<;>exact id
 · exact False.elim
theorem AR {o:pQ} (h:xS o=true) (A':aX) (fr:Fr) (st aR:St) (K:R->Prop):(step o fr st).wp A' (fun r=>K (r.1,aR))->(step o fr aR).wp A' K:=by
 cases o<;>simp only [xS,eV,Bool.false_eq_true] at h<;>simp only [step]
 case mv=>exact id
 case IU=>exact id
 case pick=>split<;>exact id
 case IW=>exact fE fun _=>id
 case rG=>split<;>exact id
 case bin=>exact Bz
 case N8=>exact fE fun _=>fE fun _=>fE fun _=>by split<;>exact id
 case un=>split<;>exact id
 case N9=>split<;>exact id
 case Oa=>split<;>exact id
 case zL=>exact id
 case pW=>
  split
  · exact fE fun _=>fE fun _=>id
  · exact id
 case IX m sz len zero parts=>
  cases m with
  |fz=>exact fE fun _=>id
  |im g=>exact absurd h (by simp)
  |mu g=>exact absurd h (by simp)
 case IY m x=>
  cases m with
  |fz=>split<;>exact id
  |im g=>exact absurd h (by simp)
  |mu g=>exact absurd h (by simp)
 case jS=>split<;>exact id
 case Hf=>
  split
  · exact fE fun _=>id
  · exact id
 case zM=>
  split
  · split
    · split<;>exact id
    · split<;>exact id
    · exact id
  · exact id
 case zN=>
  split
  · simp only [T.wp]
    intro h
    refine ⟨h.1,?_⟩
    have h:=h.2
    revert h
    split<;>exact id
  · exact id
 case Od=>split<;>exact id
 case IG=>
  split
  · intro h
    refine ⟨h.1,?_⟩
    have h:=h.2
    revert h
    exact fE fun _=>id
  · exact id
 case ext=>
  split
  · exact fE fun _=>id
  · exact id
 case zP=>split<;>exact id
 case zQ=>split<;>exact id
 case zR=>exact id
 case rH=>
  split
  · exact fE fun _=>id
  · exact id
def aV.aQ:aV->List Nat
 |.t n=>[n]
 |.c _=>[]
def aV.tD:List aV->List Nat
 |[]=>[]
 |x::r=>x.aQ++aV.tD r
def aV.tE:Option aV->List Nat
 |none=>[]
 |some x=>x.aQ
def Ft:List (Nat×Nat×aV)->List Nat
 |[]=>[]
 |(_,_,x)::r=>x.aQ++Ft r
def Fu:List (Nat×aV)->List Nat
 |[]=>[]
 |(_,x)::r=>x.aQ++Fu r
def pQ.aQ:pQ->List Nat
 |.mv x=>x.aQ
 |.IU x=>x.aQ
 |.pick c a b=>c.aQ++(a.aQ++b.aQ)
 |.alloc _ _=>[]
 |.box _ x=>x.aQ
 |.IW _ ps=>Ft ps
 |.IX _ _ _ _ ps=>Fu ps
 |.load _ a=>a.aQ
 |.store _ a x=>a.aQ++x.aQ
 |.rG x=>x.aQ
 |.bin _ x y=>x.aQ++y.aQ
 |.N8 _ _ _ x y=>x.aQ++y.aQ
 |.RH _ x y=>x.aQ++y.aQ
 |.un _ x=>x.aQ
 |.N9 _ x=>x.aQ
 |.Oa x=>x.aQ
 |.IY _ x=>x.aQ
 |.Ob x=>x.aQ
 |.Ga x=>x.aQ
 |.zL _ c=>aV.tD c
 |.uF _ _=>[]
 |.CR _ _ _ _ l c=>l.aQ++c.aQ
 |.pW x lo hi=>x.aQ++(aV.tE lo++aV.tE hi)
 |.mY _ x lo hi mx=>x.aQ++(aV.tE lo++(aV.tE hi++aV.tE mx))
 |.jS _ x=>x.aQ
 |.Hf _ _ x=>x.aQ
 |.zM _ x i=>x.aQ++i.aQ
 |.zN _ _ x i=>x.aQ++i.aQ
 |.Od x i=>x.aQ++i.aQ
 |.IG _ _ _ x i=>x.aQ++i.aQ
 |.IZ _ _ m k _=>m.aQ++k.aQ
 |.zO _ m k v=>m.aQ++(k.aQ++v.aQ)
 |.ext x _=>x.aQ
 |.call _ aeN=>aV.tD aeN
 |.pX f aeN=>f.aQ++aV.tD aeN
 |.zP x=>x.aQ
 |.zQ x=>x.aQ
 |.zR _=>[]
 |.zS x=>x.aQ
 |.rH _ xs=>aV.tD xs
 |.append _ _ _ s x=>s.aQ++x.aQ
 |.copy _ d x=>d.aQ++x.aQ
 |.delete _ m k=>m.aQ++k.aQ
 |.clear _ _ x=>x.aQ
 |.no=>[]
section
variable {fr bH:Fr}
theorem dG {x:aV} (h:∀ t∈x.aQ,fr.get t=bH.get t):x.ev fr=x.ev bH:=by
 cases x with
 |t n=>exact h n (.head _)
 |c v=>rfl
theorem tG:∀ {l:List aV},(∀ t∈aV.tD l,fr.get t=bH.get t)->aV.wH fr l=aV.wH bH l
 |[],_=>rfl
 |x::r,h=>by
  simp only [aV.wH]
  rw [dG (fun t ht=>h t (List.mem_append_left _ ht)),tG (fun t ht=>h t (List.mem_append_right _ ht))]
theorem pA {x:Option aV} (h:∀ t∈aV.tE x,fr.get t=bH.get t):aV.mZ fr x=aV.mZ bH x:=by
 cases x with
 |none=>rfl
 |some x=>simp only [aV.mZ];rw [dG h]
theorem AS:∀ {l:List (Nat×Nat×aV)},(∀ t∈Ft l,fr.get t=bH.get t)->cE fr l=cE bH l
 |[],_=>rfl
 |(a,b,x)::r,h=>by
  simp only [cE]
  rw [dG (fun t ht=>h t (List.mem_append_left _ ht)),AS (fun t ht=>h t (List.mem_append_right _ ht))]
theorem AT:∀ {l:List (Nat×aV)},(∀ t∈Fu l,fr.get t=bH.get t)->dT fr l=dT bH l
 |[],_=>rfl
 |(a,x)::r,h=>by
  simp only [dT]
  rw [dG (fun t ht=>h t (List.mem_append_left _ ht)),AT (fun t ht=>h t (List.mem_append_right _ ht))]
theorem fZ {o:pQ} (h:∀ t∈o.aQ,fr.get t=bH.get t) (st:St):step o fr st=step o bH st:=by
 cases o<;>simp only [pQ.aQ,List.mem_append,or_imp,forall_and] at h<;>simp only [step]
 case mY sz x lo hi mx=>
  rw [dG h.1,pA h.2.1,pA h.2.2.1]
  cases mx with
  |none=>rfl
  |some m=>
   have hm:m.ev fr=m.ev bH:=dG h.2.2.2
   simp only [hm]
 all_goals first
  |rfl
  |rw [dG h]
  |rw [tG h]
  |rw [AS h]
  |rw [AT h]
  |rw [dG h.1,dG h.2]
  |rw [dG h.1,dG h.2.1,dG h.2.2]
  |rw [dG h.1,pA h.2.1,pA h.2.2]
  |rw [dG h.1,tG h.2]
end
end Go.Eng
