/-
Quiet operations: what they yield hangs on nothing but their operands and the objects that they look at.
-/
import Derived.Test.YtmfelikepmmjkaaGreatY01
set_option linter.unusedVariables false
set_option linter.unusedSimpArgs false
namespace Go.Eng
open Go
mutual
theorem V.beq_eq:∀ {v u:V},V.beq v u=true->v=u
 |.b x,u,h=>by cases u<;>simp [V.beq] at h<;>simp [h]
 |.i k n,u,h=>by cases u<;>simp [V.beq] at h<;>simp [h]
 |.s x,u,h=>by cases u<;>simp [V.beq] at h<;>simp [h]
 |.kE,u,h=>by cases u<;>simp [V.beq] at h<;>rfl
 |.p k o,u,h=>by cases u<;>simp [V.beq] at h<;>simp [h]
 |.pa k z j o,u,h=>by cases u<;>simp [V.beq] at h<;>simp [h]
 |.pc _ _,u,h=>by cases u<;>simp [V.beq] at h
 |.aV,u,h=>by cases u<;>simp [V.beq] at h<;>rfl
 |.sl t z es,u,h=>by
  cases u<;>simp [V.beq] at h
  have:=V.IE h.2
  simp [h.1,this]
 |.ms k z u' l,u,h=>by cases u<;>simp [V.beq] at h<;>simp [h]
 |.gC,u,h=>by cases u<;>simp [V.beq] at h<;>rfl
 |.m k,u,h=>by cases u<;>simp [V.beq] at h<;>simp [h]
 |.fn _ _ _,u,h=>by cases u<;>simp [V.beq] at h
 |.kG,u,h=>by cases u<;>simp [V.beq] at h<;>rfl
 |.agg cs,u,h=>by
  cases u<;>simp [V.beq] at h
  rw [V.Cy h]
 |.bY cs,u,h=>by
  cases u<;>simp [V.beq] at h
  rw [V.Cy h]
 |.fK,u,h=>by cases u<;>simp [V.beq] at h
theorem V.Cy:∀ {l r:List V},V.Ko l r=true->l=r
 |[],r,h=>by cases r<;>simp [V.Ko] at h<;>rfl
 |v::l,r,h=>by
  cases r<;>simp [V.Ko] at h
  rw [V.beq_eq h.1,V.Cy h.2]
theorem V.IE:∀ {l r:List (List V)},V.H8 l r=true->l=r
 |[],r,h=>by cases r<;>simp [V.H8] at h<;>rfl
 |v::l,r,h=>by
  cases r<;>simp [V.H8] at h
  rw [V.Cy h.1,V.IE h.2]
end
def T.dA (st:St):T R->Prop
 |.ret r=>r.2=st
 |.ite _ a b=>a.dA st/\b.dA st
 |.elem _ k=>∀ x,(k x).dA st
 |.byte _ k=>∀ x,(k x).dA st
 |.rZ _ k=>∀ x,(k x).dA st
 |.EU _ k=>∀ x,(k x).dA st
 |.obj _ k=>∀ x,(k x).dA st
 |.lS _ n k=>n.dA st/\∀ x,(k x).dA st
 |.iT _ k=>k.dA st
 |.wrap _ _ k=>∀ x,(k x).dA st
 |.any _=>False
 |.same _ _ k=>k.dA st
 |.call _ _ _ _=>False
 |.fail=>True
def T.Yields (A:bS) (st:St) (t:T R) (v:V):Prop:=∀ K:R->Prop,K (v,st)->t.wp A K
theorem T.eY {st:St} {A:bS}:∀ {t:T R} {K:R->Prop},t.dA st->t.wp A K->∃ v,t.Yields A st v/\K (v,st)
 |.ret r,K,hq,h=>by
  obtain ⟨v,s⟩:=r
  simp only [T.dA] at hq
  subst hq
  exact ⟨v,fun K' h'=>h',h⟩
 |.ite c a b,K,hq,h=>by
  cases c with
  |true=>
   obtain ⟨v,h1,h2⟩:=T.eY hq.1 (h.1 rfl)
   exact ⟨v,fun K' h'=>Pd rfl (h1 K' h'),h2⟩
  |false=>
   obtain ⟨v,h1,h2⟩:=T.eY hq.2 (h.2 rfl)
   exact ⟨v,fun K' h'=>Pe rfl (h1 K' h'),h2⟩
 |.elem o k,K,hq,⟨x,hx,h⟩=>by
  obtain ⟨v,h1,h2⟩:=T.eY (hq x) h
  exact ⟨v,fun K' h'=>⟨x,hx,h1 K' h'⟩,h2⟩
 |.byte o k,K,hq,⟨x,hx,h⟩=>by
  obtain ⟨v,h1,h2⟩:=T.eY (hq x) h
  exact ⟨v,fun K' h'=>⟨x,hx,h1 K' h'⟩,h2⟩
 |.rZ o k,K,hq,⟨x,hx,h⟩=>by
  obtain ⟨v,h1,h2⟩:=T.eY (hq x) h
  exact ⟨v,fun K' h'=>⟨x,hx,h1 K' h'⟩,h2⟩
 |.EU o k,K,hq,⟨x,hx,h⟩=>by
  obtain ⟨v,h1,h2⟩:=T.eY (hq x) h
  exact ⟨v,fun K' h'=>⟨x,hx,h1 K' h'⟩,h2⟩
 |.obj o k,K,hq,⟨x,hx,h⟩=>by
  obtain ⟨v,h1,h2⟩:=T.eY (hq x) h
  exact ⟨v,fun K' h'=>⟨x,hx,h1 K' h'⟩,h2⟩
 |.lS o n k,K,hq,h=>by
  cases o with
  |none=>
   obtain ⟨v,h1,h2⟩:=T.eY hq.1 (h.1 rfl)
   exact ⟨v,fun K' h'=>Pf rfl (h1 K' h'),h2⟩
  |some x=>
   obtain ⟨v,h1,h2⟩:=T.eY (hq.2 x) (h.2 x rfl)
   exact ⟨v,fun K' h'=>Pg rfl (h1 K' h'),h2⟩
 |.iT c k,K,hq,h=>by
  obtain ⟨v,h1,h2⟩:=T.eY (t:=k) hq h.2
  exact ⟨v,fun K' h'=>⟨h.1,h1 K' h'⟩,h2⟩
 |.wrap kd n k,K,hq,h=>by
  obtain ⟨v,h1,h2⟩:=T.eY (hq _) (nX.1 h)
  exact ⟨v,fun K' h'=>.inl (h1 K' h'),h2⟩
 |.any k,K,hq,h=>hq.elim
 |.same v u k,K,hq,h=>by
  obtain ⟨x,h1,h2⟩:=T.eY (t:=k) hq h.2
  exact ⟨x,fun K' h'=>⟨h.1,h1 K' h'⟩,h2⟩
 |.call _ _ _ _,K,hq,h=>hq.elim
 |.fail,K,_,h=>h.elim
def jN:y7->Bool
 |.mv _=>true
 |.L6 _=>true
 |.pick _ _ _=>true
 |.Sa _ _=>true
 |.load _ _=>true
 |.CX _=>true
 |.bin _ _ _=>true
 |.SB _ _ _ _ _=>true
 |.un _ _=>true
 |.SC _ _=>true
 |.SD _=>true
 |.Sc .fz _=>true
 |.Sb .fz _ _ _ _=>true
 |.SE _=>true
 |.Ng _=>true
 |.GB _ _=>true
 |.y8 _ _ _=>true
 |.wM _ _ _ _ _=>true
 |.s9 _ _=>true
 |.OM _ _ _=>true
 |.E7 _ _ _=>true
 |.GC _ _ _ _=>true
 |.SF _ _=>true
 |.O6 _ _ _ _ _=>true
 |.Sd _ _ _ _ _=>true
 |.ext _ _=>true
 |.GD _=>true
 |.E8 _=>true
 |.GF _=>true
 |.GG _=>true
 |.AO _ _=>true
 |_=>false
theorem T.cV {α:Type} {st:St} {o:Option α} {k:α->T R} (h:∀ x,(k x).dA st):(T.opt o k).dA st:=by
 cases o with
 |none=>trivial
 |some x=>exact h x
theorem Fh {op:BinOp} {x y:V} {st:St}:(pZ op x y st).dA st:=by
 unfold pZ
 split
 · cases op<;>simp only [T.dA]<;>(try split)<;>simp [T.dA]
 · cases op<;>simp [T.dA]
 · trivial
theorem Fi {sz:Nat} {st:St} {v:V} {k:List (List V)->T R} (h:∀ x,(k x).dA st):(jK sz st v k).dA st:=by
 unfold jK
 split
 · exact h _
 · split
   · exact h _
   · trivial
 · split
   · intro o
     dsimp only
     split
     · split
       · exact h _
       · trivial
     · trivial
   · trivial
 · split
   · exact h _
   · trivial
 · trivial
theorem Dm {o:y7} (h:jN o=true) (fr:Fr) (st:St):(step o fr st).dA st:=by
 cases o<;>simp only [jN,Bool.false_eq_true] at h<;>simp only [step]
 case mv=>rfl
 case L6=>rfl
 case pick=>split<;>simp [T.dA]
 case Sa=>exact T.cV fun _=>rfl
 case load=>
  split
  · intro o;dsimp only;split
    · exact T.cV fun _=>rfl
    · trivial
  · intro o;dsimp only;split
    · split
      · intro e;exact T.cV fun _=>rfl
      · trivial
    · trivial
  · exact T.cV fun _=>rfl
  · trivial
 case CX=>split<;>first|rfl|trivial
 case bin=>exact Fh
 case SB=>exact T.cV fun _=>T.cV fun _=>T.cV fun _=>by split<;>rfl
 case un=>split<;>simp [T.dA]
 case SC=>split<;>simp [T.dA]
 case SD=>split<;>first|rfl|trivial
 case Sc m x=>
  cases m<;>simp only [Bool.false_eq_true] at h
  split
  · intro e;rfl
  · trivial
 case Sb m sz len zero parts=>
  cases m<;>simp only [Bool.false_eq_true] at h
  exact T.cV fun _ _=>rfl
 case SE=>
  split
  · intro o;dsimp only;split<;>first|rfl|trivial
  · intro o;dsimp only
    split
    · split<;>first|rfl|trivial
    · trivial
  · trivial
 case Ng=>exact Fi fun _ _=>rfl
 case GB=>rfl
 case y8=>
  split
  · exact T.cV fun _=>T.cV fun _=>rfl
  · trivial
 case wM=>
  split
  · split
    · exact T.cV fun _=>T.cV fun _=>rfl
    · trivial
  · split
    · split
      · split
        · exact T.cV fun _=>rfl
        · exact T.cV fun _=>T.cV fun _=>rfl
      · trivial
    · trivial
  · split
    · exact T.cV fun _=>T.cV fun _=>by
       intro o
       dsimp only
       split
       · split
         · split
           · rfl
           · exact T.cV fun _=>rfl
         · trivial
       · trivial
    · trivial
  · trivial
 case s9=>split<;>first|rfl|trivial
 case OM=>split<;>first|exact T.cV fun _=>rfl|trivial
 case E7=>
  split
  · split
    · split
      · intro e;rfl
      · trivial
    · split
      · rfl
      · trivial
    · trivial
  · trivial
 case GC=>
  split
  · simp only [T.dA];split<;>first|rfl|trivial
  · trivial
 case SF=>split<;>simp [T.dA]
 case O6=>
  split
  · exact T.cV fun _=>rfl
  · trivial
 case Sd=>
  split
  · split
    · unfold sB;split<;>simp [T.dA]
    · intro o;dsimp only;split
      · split
        · unfold sB;split<;>simp [T.dA]
        · trivial
      · trivial
    · trivial
  · trivial
 case ext=>split<;>first|exact T.cV fun _=>rfl|trivial
 case GD=>split<;>first|rfl|trivial
 case E8=>split<;>first|rfl|trivial
 case GF=>rfl
 case GG=>
  split
  · rfl
  · intro o;dsimp only;split<;>first|rfl|trivial
  · trivial
 case AO=>split<;>first|exact T.cV fun _=>rfl|trivial
def Dp:y7->Bool
 |.load _ _=>false
 |.Ng _=>false
 |.SE _=>false
 |.wM _ _ _ _ _=>false
 |.Sd _ _ _ _ _=>false
 |.GG _=>false
 |o=>jN o
theorem jC {α:Type} {A':bS} {o:Option α} {k k':α->T R} {K K':R->Prop} (h:∀ x,(k x).wp A' K->(k' x).wp A' K'):(T.opt o k).wp A' K->(T.opt o k').wp A' K':=by
 cases o with
 |none=>exact id
 |some x=>exact h x
theorem GZ {A':bS} {op:BinOp} {x y:V} {st bU:St} {K:R->Prop}:(pZ op x y st).wp A' (fun r=>K (r.1,bU))->(pZ op x y bU).wp A' K:=by
 unfold pZ
 split
 · rename_i k a k' c
   by_cases hk:k=k'
   · subst hk
     cases op<;>simp only [if_true]<;>exact id
   · cases op<;>simp only [if_neg hk]<;>exact id
 · cases op<;>exact id
 · exact False.elim
theorem NJ {o:y7} (h:Dp o=true) (A':bS) (fr:Fr) (st bU:St) (K:R->Prop):(step o fr st).wp A' (fun r=>K (r.1,bU))->(step o fr bU).wp A' K:=by
 cases o<;>simp only [Dp,jN,Bool.false_eq_true] at h<;>simp only [step]
 case mv=>exact id
 case L6=>exact id
 case pick=>split<;>exact id
 case Sa=>exact jC fun _=>id
 case CX=>split<;>exact id
 case bin=>exact GZ
 case SB=>exact jC fun _=>jC fun _=>jC fun _=>by split<;>exact id
 case un=>split<;>exact id
 case SC=>split<;>exact id
 case SD=>split<;>exact id
 case GB=>exact id
 case y8=>
  split
  · exact jC fun _=>jC fun _=>id
  · exact id
 case Sb m sz len zero parts=>
  cases m with
  |fz=>exact jC fun _=>id
  |im g=>exact absurd h (by simp)
  |mu g=>exact absurd h (by simp)
 case Sc m x=>
  cases m with
  |fz=>split<;>exact id
  |im g=>exact absurd h (by simp)
  |mu g=>exact absurd h (by simp)
 case s9=>split<;>exact id
 case OM=>
  split
  · exact jC fun _=>id
  · exact id
 case E7=>
  split
  · split
    · split<;>exact id
    · split<;>exact id
    · exact id
  · exact id
 case GC=>
  split
  · simp only [T.wp]
    intro h
    refine ⟨h.1,?_⟩
    have h:=h.2
    revert h
    split<;>exact id
  · exact id
 case SF=>split<;>exact id
 case O6=>
  split
  · intro h
    refine ⟨h.1,?_⟩
    have h:=h.2
    revert h
    exact jC fun _=>id
  · exact id
 case ext=>
  split
  · exact jC fun _=>id
  · exact id
 case GD=>split<;>exact id
 case E8=>split<;>exact id
 case GF=>exact id
 case AO=>
  split
  · exact jC fun _=>id
  · exact id
def bH.cF:bH->List Nat
 |.t n=>[n]
 |.c _=>[]
def bH.AX:List bH->List Nat
 |[]=>[]
 |x::r=>x.cF++bH.AX r
def bH.AY:Option bH->List Nat
 |none=>[]
 |some x=>x.cF
def KR:List (Nat×Nat×bH)->List Nat
 |[]=>[]
 |(_,_,x)::r=>x.cF++KR r
def KS:List (Nat×bH)->List Nat
 |[]=>[]
 |(_,x)::r=>x.cF++KS r
def y7.cF:y7->List Nat
 |.mv x=>x.cF
 |.L6 x=>x.cF
 |.pick c a b=>c.cF++(a.cF++b.cF)
 |.alloc _ _=>[]
 |.box _ x=>x.cF
 |.Sa _ ps=>KR ps
 |.Sb _ _ _ _ ps=>KS ps
 |.load _ a=>a.cF
 |.store _ a x=>a.cF++x.cF
 |.CX x=>x.cF
 |.bin _ x y=>x.cF++y.cF
 |.SB _ _ _ x y=>x.cF++y.cF
 |.XA _ x y=>x.cF++y.cF
 |.un _ x=>x.cF
 |.SC _ x=>x.cF
 |.SD x=>x.cF
 |.Sc _ x=>x.cF
 |.SE x=>x.cF
 |.Ng x=>x.cF
 |.GB _ c=>bH.AX c
 |.CY _ _=>[]
 |.Km _ _ _ _ l c=>l.cF++c.cF
 |.y8 x lo hi=>x.cF++(bH.AY lo++bH.AY hi)
 |.wM _ x lo hi mx=>x.cF++(bH.AY lo++(bH.AY hi++bH.AY mx))
 |.s9 _ x=>x.cF
 |.OM _ _ x=>x.cF
 |.E7 _ x i=>x.cF++i.cF
 |.GC _ _ x i=>x.cF++i.cF
 |.SF x i=>x.cF++i.cF
 |.O6 _ _ _ x i=>x.cF++i.cF
 |.Sd _ _ m k _=>m.cF++k.cF
 |.Kn _ m k v=>m.cF++(k.cF++v.cF)
 |.ext x _=>x.cF
 |.call _ aoP=>bH.AX aoP
 |.wY f aoP=>f.cF++bH.AX aoP
 |.GD x=>x.cF
 |.E8 x=>x.cF
 |.GF _=>[]
 |.GG x=>x.cF
 |.AO _ xs=>bH.AX xs
 |.append _ _ _ s x=>s.cF++x.cF
 |.copy _ d x=>d.cF++x.cF
 |.delete _ m k=>m.cF++k.cF
 |.clear _ _ x=>x.cF
 |.no=>[]
section
variable {fr bZ:Fr}
theorem fZ {x:bH} (h:∀ t∈x.cF,fr.get t=bZ.get t):x.ev fr=x.ev bZ:=by
 cases x with
 |t n=>exact h n (.head _)
 |c v=>rfl
theorem AZ:∀ {l:List bH},(∀ t∈bH.AX l,fr.get t=bZ.get t)->bH.GH fr l=bH.GH bZ l
 |[],_=>rfl
 |x::r,h=>by
  simp only [bH.GH]
  rw [fZ (fun t ht=>h t (List.mem_append_left _ ht)),AZ (fun t ht=>h t (List.mem_append_right _ ht))]
theorem vT {x:Option bH} (h:∀ t∈bH.AY x,fr.get t=bZ.get t):bH.Cq fr x=bH.Cq bZ x:=by
 cases x with
 |none=>rfl
 |some x=>simp only [bH.Cq];rw [fZ h]
theorem FP:∀ {l:List (Nat×Nat×bH)},(∀ t∈KR l,fr.get t=bZ.get t)->dT fr l=dT bZ l
 |[],_=>rfl
 |(a,b,x)::r,h=>by
  simp only [dT]
  rw [fZ (fun t ht=>h t (List.mem_append_left _ ht)),FP (fun t ht=>h t (List.mem_append_right _ ht))]
theorem FQ:∀ {l:List (Nat×bH)},(∀ t∈KS l,fr.get t=bZ.get t)->fW fr l=fW bZ l
 |[],_=>rfl
 |(a,x)::r,h=>by
  simp only [fW]
  rw [fZ (fun t ht=>h t (List.mem_append_left _ ht)),FQ (fun t ht=>h t (List.mem_append_right _ ht))]
theorem o8 {o:y7} (h:∀ t∈o.cF,fr.get t=bZ.get t) (st:St):step o fr st=step o bZ st:=by
 cases o<;>simp only [y7.cF,List.mem_append,or_imp,forall_and] at h<;>simp only [step]
 case wM sz x lo hi mx=>
  rw [fZ h.1,vT h.2.1,vT h.2.2.1]
  cases mx with
  |none=>rfl
  |some m=>
   have hm:m.ev fr=m.ev bZ:=fZ h.2.2.2
   simp only [hm]
 all_goals first
  |rfl
  |rw [fZ h]
  |rw [AZ h]
  |rw [FP h]
  |rw [FQ h]
  |rw [fZ h.1,fZ h.2]
  |rw [fZ h.1,fZ h.2.1,fZ h.2.2]
  |rw [fZ h.1,vT h.2.1,vT h.2.2]
  |rw [fZ h.1,AZ h.2]
end
end Go.Eng
