/-
Quiet operations: what they yield hangs on nothing but their operands and the objects that they look at.
-/
import Derived.Test.YtdjbjnnfmkoceaaGreatY00
set_option linter.unusedVariables false
set_option linter.unusedSimpArgs false
namespace Go.Eng
open Go
mutual
theorem V.beq_eq:∀ {v u:V},V.beq v u=true->v=u
 |.b x,u,h=>by cases u<;>simp [V.beq] at h<;>simp [h]
 |.i k n,u,h=>by cases u<;>simp [V.beq] at h<;>simp [h]
 |.s x,u,h=>by cases u<;>simp [V.beq] at h<;>simp [h]
 |.fM,u,h=>by cases u<;>simp [V.beq] at h<;>rfl
 |.p k o,u,h=>by cases u<;>simp [V.beq] at h<;>simp [h]
 |.pa k z j o,u,h=>by cases u<;>simp [V.beq] at h<;>simp [h]
 |.pc _ _,u,h=>by cases u<;>simp [V.beq] at h
 |.aB,u,h=>by cases u<;>simp [V.beq] at h<;>rfl
 |.sl t z es,u,h=>by
  cases u<;>simp [V.beq] at h
  have:=V.KP h.2
  simp [h.1,this]
 |.ms k z u' l,u,h=>by cases u<;>simp [V.beq] at h<;>simp [h]
 |.eG,u,h=>by cases u<;>simp [V.beq] at h<;>rfl
 |.m k,u,h=>by cases u<;>simp [V.beq] at h<;>simp [h]
 |.fn _ _ _,u,h=>by cases u<;>simp [V.beq] at h
 |.fN,u,h=>by cases u<;>simp [V.beq] at h<;>rfl
 |.agg cs,u,h=>by
  cases u<;>simp [V.beq] at h
  rw [V.CB h]
 |.bC cs,u,h=>by
  cases u<;>simp [V.beq] at h
  rw [V.CB h]
 |.bL,u,h=>by cases u<;>simp [V.beq] at h
theorem V.CB:∀ {l r:List V},V.Oy l r=true->l=r
 |[],r,h=>by cases r<;>simp [V.Oy] at h<;>rfl
 |v::l,r,h=>by
  cases r<;>simp [V.Oy] at h
  rw [V.beq_eq h.1,V.CB h.2]
theorem V.KP:∀ {l r:List (List V)},V.Ko l r=true->l=r
 |[],r,h=>by cases r<;>simp [V.Ko] at h<;>rfl
 |v::l,r,h=>by
  cases r<;>simp [V.Ko] at h
  rw [V.CB h.1,V.KP h.2]
end
def T.cE (st:St):T R->Prop
 |.ret r=>r.2=st
 |.ite _ a b=>a.cE st/\b.cE st
 |.elem _ k=>∀ x,(k x).cE st
 |.byte _ k=>∀ x,(k x).cE st
 |.gL _ k=>∀ x,(k x).cE st
 |.Kk _ k=>∀ x,(k x).cE st
 |.obj _ k=>∀ x,(k x).cE st
 |.oV _ n k=>n.cE st/\∀ x,(k x).cE st
 |.mL _ k=>k.cE st
 |.wrap _ _ k=>∀ x,(k x).cE st
 |.any _=>False
 |.same _ _ k=>k.cE st
 |.call _ _ _ _=>False
 |.fail=>True
def T.Yields (A:bK) (st:St) (t:T R) (v:V):Prop:=∀ K:R->Prop,K (v,st)->t.wp A K
theorem T.eF {st:St} {A:bK}:∀ {t:T R} {K:R->Prop},t.cE st->t.wp A K->∃ v,t.Yields A st v/\K (v,st)
 |.ret r,K,hq,h=>by
  obtain ⟨v,s⟩:=r
  simp only [T.cE] at hq
  subst hq
  exact ⟨v,fun K' h'=>h',h⟩
 |.ite c a b,K,hq,h=>by
  cases c with
  |true=>
   obtain ⟨v,h1,h2⟩:=T.eF hq.1 (h.1 rfl)
   exact ⟨v,fun K' h'=>BD rfl (h1 K' h'),h2⟩
  |false=>
   obtain ⟨v,h1,h2⟩:=T.eF hq.2 (h.2 rfl)
   exact ⟨v,fun K' h'=>Ad rfl (h1 K' h'),h2⟩
 |.elem o k,K,hq,⟨x,hx,h⟩=>by
  obtain ⟨v,h1,h2⟩:=T.eF (hq x) h
  exact ⟨v,fun K' h'=>⟨x,hx,h1 K' h'⟩,h2⟩
 |.byte o k,K,hq,⟨x,hx,h⟩=>by
  obtain ⟨v,h1,h2⟩:=T.eF (hq x) h
  exact ⟨v,fun K' h'=>⟨x,hx,h1 K' h'⟩,h2⟩
 |.gL o k,K,hq,⟨x,hx,h⟩=>by
  obtain ⟨v,h1,h2⟩:=T.eF (hq x) h
  exact ⟨v,fun K' h'=>⟨x,hx,h1 K' h'⟩,h2⟩
 |.Kk o k,K,hq,⟨x,hx,h⟩=>by
  obtain ⟨v,h1,h2⟩:=T.eF (hq x) h
  exact ⟨v,fun K' h'=>⟨x,hx,h1 K' h'⟩,h2⟩
 |.obj o k,K,hq,⟨x,hx,h⟩=>by
  obtain ⟨v,h1,h2⟩:=T.eF (hq x) h
  exact ⟨v,fun K' h'=>⟨x,hx,h1 K' h'⟩,h2⟩
 |.oV o n k,K,hq,h=>by
  cases o with
  |none=>
   obtain ⟨v,h1,h2⟩:=T.eF hq.1 (h.1 rfl)
   exact ⟨v,fun K' h'=>CR rfl (h1 K' h'),h2⟩
  |some x=>
   obtain ⟨v,h1,h2⟩:=T.eF (hq.2 x) (h.2 x rfl)
   exact ⟨v,fun K' h'=>OB rfl (h1 K' h'),h2⟩
 |.mL c k,K,hq,h=>by
  obtain ⟨v,h1,h2⟩:=T.eF (t:=k) hq h.2
  exact ⟨v,fun K' h'=>⟨h.1,h1 K' h'⟩,h2⟩
 |.wrap kd n k,K,hq,h=>by
  obtain ⟨v,h1,h2⟩:=T.eF (hq _) (oS.1 h)
  exact ⟨v,fun K' h'=>.inl (h1 K' h'),h2⟩
 |.any k,K,hq,h=>hq.elim
 |.same v u k,K,hq,h=>by
  obtain ⟨x,h1,h2⟩:=T.eF (t:=k) hq h.2
  exact ⟨x,fun K' h'=>⟨h.1,h1 K' h'⟩,h2⟩
 |.call _ _ _ _,K,hq,h=>hq.elim
 |.fail,K,_,h=>h.elim
def gM:wT->Bool
 |.mv _=>true
 |.Ue _=>true
 |.pick _ _ _=>true
 |.Uf _ _=>true
 |.load _ _=>true
 |.zW _=>true
 |.bin _ _ _=>true
 |.eqc _ _ _ _ _=>true
 |.un _ _=>true
 |.cvi _ _=>true
 |.cvs _=>true
 |.Uh .fz _=>true
 |.Ug .fz _ _ _ _=>true
 |.mkb _=>true
 |.PN _=>true
 |.Ew _ _=>true
 |.xQ _ _ _=>true
 |.tK _ _ _ _ _=>true
 |.oW _ _=>true
 |.QW _ _ _=>true
 |.Ey _ _ _=>true
 |.Ez _ _ _ _=>true
 |.ixs _ _=>true
 |.T0 _ _ _ _ _=>true
 |.Ui _ _ _ _ _=>true
 |.ext _ _=>true
 |.EB _=>true
 |.EC _=>true
 |.ED _=>true
 |.EE _=>true
 |.zX _ _=>true
 |_=>false
theorem T.cB {α:Type} {st:St} {o:Option α} {k:α->T R} (h:∀ x,(k x).cE st):(T.opt o k).cE st:=by
 cases o with
 |none=>trivial
 |some x=>exact h x
theorem EN {op:BinOp} {x y:V} {st:St}:(dU op x y st).cE st:=by
 unfold dU
 split
 · cases op<;>simp only [T.cE]<;>(try split)<;>simp [T.cE]
 · cases op<;>simp [T.cE]
 · trivial
theorem EO {sz:Nat} {st:St} {v:V} {k:List (List V)->T R} (h:∀ x,(k x).cE st):(fP sz st v k).cE st:=by
 unfold fP
 split
 · exact h _
 · split
   · exact h _
   · trivial
 · split
   · intro o
     dsimp only
     split
     · split
       · exact h _
       · trivial
     · trivial
   · trivial
 · split
   · exact h _
   · trivial
 · trivial
theorem yK {o:wT} (h:gM o=true) (fr:Fr) (st:St):(step o fr st).cE st:=by
 cases o<;>simp only [gM,Bool.false_eq_true] at h<;>simp only [step]
 case mv=>rfl
 case Ue=>rfl
 case pick=>split<;>simp [T.cE]
 case Uf=>exact T.cB fun _=>rfl
 case load=>
  split
  · intro o;dsimp only;split
    · exact T.cB fun _=>rfl
    · trivial
  · intro o;dsimp only;split
    · split
      · intro e;exact T.cB fun _=>rfl
      · trivial
    · trivial
  · exact T.cB fun _=>rfl
  · trivial
 case zW=>split<;>first|rfl|trivial
 case bin=>exact EN
 case eqc=>exact T.cB fun _=>T.cB fun _=>T.cB fun _=>by split<;>rfl
 case un=>split<;>simp [T.cE]
 case cvi=>split<;>simp [T.cE]
 case cvs=>split<;>first|rfl|trivial
 case Uh m x=>
  cases m<;>simp only [Bool.false_eq_true] at h
  split
  · intro e;rfl
  · trivial
 case Ug m sz len zero parts=>
  cases m<;>simp only [Bool.false_eq_true] at h
  exact T.cB fun _ _=>rfl
 case mkb=>
  split
  · intro o;dsimp only;split<;>first|rfl|trivial
  · intro o;dsimp only
    split
    · split<;>first|rfl|trivial
    · trivial
  · trivial
 case PN=>exact EO fun _ _=>rfl
 case Ew=>rfl
 case xQ=>
  split
  · exact T.cB fun _=>T.cB fun _=>rfl
  · trivial
 case tK=>
  split
  · split
    · exact T.cB fun _=>T.cB fun _=>rfl
    · trivial
  · split
    · split
      · split
        · exact T.cB fun _=>rfl
        · exact T.cB fun _=>T.cB fun _=>rfl
      · trivial
    · trivial
  · split
    · exact T.cB fun _=>T.cB fun _=>by
       intro o
       dsimp only
       split
       · split
         · split
           · rfl
           · exact T.cB fun _=>rfl
         · trivial
       · trivial
    · trivial
  · trivial
 case oW=>split<;>first|rfl|trivial
 case QW=>split<;>first|exact T.cB fun _=>rfl|trivial
 case Ey=>
  split
  · split
    · split
      · intro e;rfl
      · trivial
    · split
      · rfl
      · trivial
    · trivial
  · trivial
 case Ez=>
  split
  · simp only [T.cE];split<;>first|rfl|trivial
  · trivial
 case ixs=>split<;>simp [T.cE]
 case T0=>
  split
  · exact T.cB fun _=>rfl
  · trivial
 case Ui=>
  split
  · split
    · unfold yE;split<;>simp [T.cE]
    · intro o;dsimp only;split
      · split
        · unfold yE;split<;>simp [T.cE]
        · trivial
      · trivial
    · trivial
  · trivial
 case ext=>split<;>first|exact T.cB fun _=>rfl|trivial
 case EB=>split<;>first|rfl|trivial
 case EC=>split<;>first|rfl|trivial
 case ED=>rfl
 case EE=>
  split
  · rfl
  · intro o;dsimp only;split<;>first|rfl|trivial
  · trivial
 case zX=>split<;>first|exact T.cB fun _=>rfl|trivial
def Dg:wT->Bool
 |.load _ _=>false
 |.PN _=>false
 |.mkb _=>false
 |.tK _ _ _ _ _=>false
 |.Ui _ _ _ _ _=>false
 |.EE _=>false
 |o=>gM o
theorem gZ {α:Type} {A':bK} {o:Option α} {k k':α->T R} {K K':R->Prop} (h:∀ x,(k x).wp A' K->(k' x).wp A' K'):(T.opt o k).wp A' K->(T.opt o k').wp A' K':=by
 cases o with
 |none=>exact id
 |some x=>exact h x
theorem Ir {A':bK} {op:BinOp} {x y:V} {st bA:St} {K:R->Prop}:(dU op x y st).wp A' (fun r=>K (r.1,bA))->(dU op x y bA).wp A' K:=by
 unfold dU
 split
 · rename_i k a k' c
   by_cases hk:k=k'
   · subst hk
     cases op<;>simp only [if_true]<;>exact id
   · cases op<;>simp only [if_neg hk]<;>exact id
 · cases op<;>exact id
 · exact False.elim
theorem F6 {o:wT} (h:Dg o=true) (A':bK) (fr:Fr) (st bA:St) (K:R->Prop):(step o fr st).wp A' (fun r=>K (r.1,bA))->(step o fr bA).wp A' K:=by
 cases o<;>simp only [Dg,gM,Bool.false_eq_true] at h<;>simp only [step]
 case mv=>exact id
 case Ue=>exact id
 case pick=>split<;>exact id
 case Uf=>exact gZ fun _=>id
 case zW=>split<;>exact id
 case bin=>exact Ir
 case eqc=>exact gZ fun _=>gZ fun _=>gZ fun _=>by split<;>exact id
 case un=>split<;>exact id
 case cvi=>split<;>exact id
 case cvs=>split<;>exact id
 case Ew=>exact id
 case xQ=>
  split
  · exact gZ fun _=>gZ fun _=>id
  · exact id
 case Ug m sz len zero parts=>
  cases m with
  |fz=>exact gZ fun _=>id
  |im g=>exact absurd h (by simp)
  |mu g=>exact absurd h (by simp)
 case Uh m x=>
  cases m with
  |fz=>split<;>exact id
  |im g=>exact absurd h (by simp)
  |mu g=>exact absurd h (by simp)
 case oW=>split<;>exact id
 case QW=>
  split
  · exact gZ fun _=>id
  · exact id
 case Ey=>
  split
  · split
    · split<;>exact id
    · split<;>exact id
    · exact id
  · exact id
 case Ez=>
  split
  · simp only [T.wp]
    intro h
    refine ⟨h.1,?_⟩
    have h:=h.2
    revert h
    split<;>exact id
  · exact id
 case ixs=>split<;>exact id
 case T0=>
  split
  · intro h
    refine ⟨h.1,?_⟩
    have h:=h.2
    revert h
    exact gZ fun _=>id
  · exact id
 case ext=>
  split
  · exact gZ fun _=>id
  · exact id
 case EB=>split<;>exact id
 case EC=>split<;>exact id
 case ED=>exact id
 case zX=>
  split
  · exact gZ fun _=>id
  · exact id
def bH.aZ:bH->List Nat
 |.t n=>[n]
 |.c _=>[]
def bH.A8:List bH->List Nat
 |[]=>[]
 |x::r=>x.aZ++bH.A8 r
def bH.A9:Option bH->List Nat
 |none=>[]
 |some x=>x.aZ
def OV:List (Nat×Nat×bH)->List Nat
 |[]=>[]
 |(_,_,x)::r=>x.aZ++OV r
def OW:List (Nat×bH)->List Nat
 |[]=>[]
 |(_,x)::r=>x.aZ++OW r
def wT.aZ:wT->List Nat
 |.mv x=>x.aZ
 |.Ue x=>x.aZ
 |.pick c a b=>c.aZ++(a.aZ++b.aZ)
 |.alloc _ _=>[]
 |.box _ x=>x.aZ
 |.Uf _ ps=>OV ps
 |.Ug _ _ _ _ ps=>OW ps
 |.load _ a=>a.aZ
 |.store _ a x=>a.aZ++x.aZ
 |.zW x=>x.aZ
 |.bin _ x y=>x.aZ++y.aZ
 |.eqc _ _ _ x y=>x.aZ++y.aZ
 |.eqn _ x y=>x.aZ++y.aZ
 |.un _ x=>x.aZ
 |.cvi _ x=>x.aZ
 |.cvs x=>x.aZ
 |.Uh _ x=>x.aZ
 |.mkb x=>x.aZ
 |.PN x=>x.aZ
 |.Ew _ c=>bH.A8 c
 |.BA _ _=>[]
 |.Kl _ _ _ _ l c=>l.aZ++c.aZ
 |.xQ x lo hi=>x.aZ++(bH.A9 lo++bH.A9 hi)
 |.tK _ x lo hi mx=>x.aZ++(bH.A9 lo++(bH.A9 hi++bH.A9 mx))
 |.oW _ x=>x.aZ
 |.QW _ _ x=>x.aZ
 |.Ey _ x i=>x.aZ++i.aZ
 |.Ez _ _ x i=>x.aZ++i.aZ
 |.ixs x i=>x.aZ++i.aZ
 |.T0 _ _ _ x i=>x.aZ++i.aZ
 |.Ui _ _ m k _=>m.aZ++k.aZ
 |.EA _ m k v=>m.aZ++(k.aZ++v.aZ)
 |.ext x _=>x.aZ
 |.call _ aEo=>bH.A8 aEo
 |.xS f aEo=>f.aZ++bH.A8 aEo
 |.EB x=>x.aZ
 |.EC x=>x.aZ
 |.ED _=>[]
 |.EE x=>x.aZ
 |.zX _ xs=>bH.A8 xs
 |.append _ _ _ s x=>s.aZ++x.aZ
 |.copy _ d x=>d.aZ++x.aZ
 |.delete _ m k=>m.aZ++k.aZ
 |.clear _ _ x=>x.aZ
 |.no=>[]
section
variable {fr bV:Fr}
theorem eV {x:bH} (h:∀ t∈x.aZ,fr.get t=bV.get t):x.ev fr=x.ev bV:=by
 cases x with
 |t n=>exact h n (.head _)
 |c v=>rfl
theorem Ba:∀ {l:List bH},(∀ t∈bH.A8 l,fr.get t=bV.get t)->bH.BB fr l=bH.BB bV l
 |[],_=>rfl
 |x::r,h=>by
  simp only [bH.BB]
  rw [eV (fun t ht=>h t (List.mem_append_left _ ht)),Ba (fun t ht=>h t (List.mem_append_right _ ht))]
theorem wB {x:Option bH} (h:∀ t∈bH.A9 x,fr.get t=bV.get t):bH.tJ fr x=bH.tJ bV x:=by
 cases x with
 |none=>rfl
 |some x=>simp only [bH.tJ];rw [eV h]
theorem F7:∀ {l:List (Nat×Nat×bH)},(∀ t∈OV l,fr.get t=bV.get t)->dD fr l=dD bV l
 |[],_=>rfl
 |(a,b,x)::r,h=>by
  simp only [dD]
  rw [eV (fun t ht=>h t (List.mem_append_left _ ht)),F7 (fun t ht=>h t (List.mem_append_right _ ht))]
theorem F8:∀ {l:List (Nat×bH)},(∀ t∈OW l,fr.get t=bV.get t)->fG fr l=fG bV l
 |[],_=>rfl
 |(a,x)::r,h=>by
  simp only [fG]
  rw [eV (fun t ht=>h t (List.mem_append_left _ ht)),F8 (fun t ht=>h t (List.mem_append_right _ ht))]
theorem iX {o:wT} (h:∀ t∈o.aZ,fr.get t=bV.get t) (st:St):step o fr st=step o bV st:=by
 cases o<;>simp only [wT.aZ,List.mem_append,or_imp,forall_and] at h<;>simp only [step]
 case tK sz x lo hi mx=>
  rw [eV h.1,wB h.2.1,wB h.2.2.1]
  cases mx with
  |none=>rfl
  |some m=>
   have hm:m.ev fr=m.ev bV:=eV h.2.2.2
   simp only [hm]
 all_goals first
  |rfl
  |rw [eV h]
  |rw [Ba h]
  |rw [F7 h]
  |rw [F8 h]
  |rw [eV h.1,eV h.2]
  |rw [eV h.1,eV h.2.1,eV h.2.2]
  |rw [eV h.1,wB h.2.1,wB h.2.2]
  |rw [eV h.1,Ba h.2]
end
end Go.Eng
