/-
Names in order.
-/
import Derived.Test.YtmfelikepmmjkaaGreatY13
import Derived.Test.YtmfelikepmmjkaaGreatY21
set_option linter.unusedVariables false
set_option linter.unusedSimpArgs false
namespace Go.Eng
open Go
abbrev cC (a b:aU):Prop:=Op.bytesLess a b=true
theorem kB:∀ a:aU,Op.bytesLess a a=false
 |[]=>rfl
 |a::r=>by
  have h:¬a<a:=UInt8.lt_irrefl a
  simp only [Op.bytesLess,kB r,decide_eq_false h,Bool.and_false,Bool.or_false]
theorem nA:∀ {a b:aU},Op.bytesLess a b=false->a≠b->Op.bytesLess b a=true
 |[],[],_,h=>absurd rfl h
 |[],_::_,h,_=>by cases h
 |_::_,[],_,_=>rfl
 |a::r,b::q,h,dM=>by
  simp only [Op.bytesLess,Bool.or_eq_false_iff,decide_eq_false_iff_not,Bool.and_eq_false_imp,beq_iff_eq] at h
  simp only [Op.bytesLess,Bool.or_eq_true,decide_eq_true_eq,Bool.and_eq_true,beq_iff_eq]
  by_cases Q3:a=b
  · subst Q3
    exact .inr ⟨rfl,nA (h.2 rfl) fun e=>dM (by rw [e])⟩
  · refine .inl ?_
    rcases UInt8.lt_or_lt_of_ne Q3 with cL|cL
    · exact absurd cL h.1
    · exact cL
theorem jE:∀ {a b c:aU},cC a b->cC b c->cC a c
 |_,[],_,h,_=>by unfold cC Op.bytesLess at h;cases h
 |_,_::_,[],_,h=>by unfold cC Op.bytesLess at h;cases h
 |[],_::_,_::_,_,_=>rfl
 |a::r,b::q,c::s,h1,h2=>by
  simp only [cC,Op.bytesLess,Bool.or_eq_true,decide_eq_true_eq,Bool.and_eq_true,beq_iff_eq] at h1 h2 ⊢
  rcases h1 with h1|⟨rfl,h1⟩
  · rcases h2 with h2|⟨rfl,h2⟩
    · exact .inl (UInt8.lt_trans h1 h2)
    · exact .inl h1
  · rcases h2 with h2|⟨rfl,h2⟩
    · exact .inl h2
    · exact .inr ⟨rfl,jE h1 h2⟩
theorem sN {a b:aU} (h:cC a b):Op.bytesLess b a=false:=by
 cases hc:Op.bytesLess b a with
 |false=>rfl
 |true=>have:=jE h hc;rw [cC,kB] at this;cases this
theorem lG:∀ {a b:aU},cC a b->0<mF b a
 |_,[],h=>by unfold cC Op.bytesLess at h;cases h
 |[],_::_,_=>by unfold mF;decide
 |a::r,b::q,h=>by
  simp only [cC,Op.bytesLess,Bool.or_eq_true,decide_eq_true_eq,Bool.and_eq_true,beq_iff_eq] at h
  unfold mF
  by_cases Q3:a=b
  · subst Q3
    have h1:Nat.blt a.toNat a.toNat=false:=by simp [Nat.blt_eq,<-Bool.not_eq_true]
    rw [h1]
    rcases h with h|⟨_,h⟩
    · exact absurd h (UInt8.lt_irrefl a)
    · exact lG h
  · have cL:a<b:=by
     rcases h with h|⟨h,_⟩
     · exact h
     · exact absurd h Q3
    have hn:a.toNat<b.toNat:=UInt8.lt_iff_toNat_lt.1 cL
    have h1:Nat.blt b.toNat a.toNat=false:=by rw [Bool.eq_false_iff];exact fun hc=>by have:=(Nat.blt_eq▸hc:b.toNat<a.toNat);omega
    have h2:Nat.blt a.toNat b.toNat=true:=by rw [Nat.blt_eq];exact hn
    rw [h1,h2]
    exact Int.zero_lt_one
theorem Ag {α:Type} {R:α->α->Prop} {l:List α} (h:l.Pairwise R) {i j:Nat} {x y:α} (SV:i<j) (hx:l[i]? =some x) (hy:l[j]? =some y):R x y:=by
 obtain ⟨h1,rfl⟩:=List.getElem?_eq_some_iff.1 hx
 obtain ⟨h2,rfl⟩:=List.getElem?_eq_some_iff.1 hy
 exact List.pairwise_iff_getElem.1 h i j h1 h2 SV
theorem jF {α:Type} {φ:α->Prop} {l:List α} {i:Nat} {e:α} (h:∀ x∈l.take i,φ x) (he:l[i]? =some e) (hp:φ e):∀ x∈l.take (i+1),φ x:=by
 rw [cG he]
 intro x hx
 rcases List.mem_append.1 hx with hx|hx
 · exact h x hx
 · rw [List.mem_singleton.1 hx];exact hp
open Go
theorem EC (x y:aU):tO (.s x) (.s y)=decide (x=y):=by
 show (x==y)=_
 by_cases h:x=y
 · simp [h]
 · rw [beq_false_of_ne h,decide_eq_false h]
def Az (S:List aU):List (V×V):=S.map fun x=>(V.s x,V.b true)
theorem BR:∀ {S:List aU} {x:aU},x∈S->pX (Az S) (.s x)=some (.b true)
 |y::r,x,h=>by
  simp only [Az,List.map_cons,pX,EC]
  by_cases Fk:x=y
  · rw [if_pos (by simp [Fk])]
  · rw [if_neg (by simpa using Fk)]
    have:x∈r:=by
     cases h with
     |head=>exact absurd rfl Fk
     |tail _ h=>exact h
    exact BR this
theorem BS:∀ {S:List aU} {x:aU},x∉S->pX (Az S) (.s x)=none
 |[],x,_=>rfl
 |y::r,x,h=>by
  simp only [Az,List.map_cons,pX,EC]
  have h1:x≠y:=by rintro rfl;exact h (.head _)
  rw [if_neg (by simpa using h1)]
  exact BS fun hx=>h (.tail _ hx)
theorem Gl:∀ {S:List aU} {x:aU},x∉S->y9 (Az S) (.s x) (.b true)=Az (S++[x])
 |[],x,_=>rfl
 |y::r,x,h=>by
  simp only [Az,List.map_cons,y9,List.cons_append,EC]
  have h1:x≠y:=by rintro rfl;exact h (.head _)
  rw [if_neg (by simpa using h1)]
  have:=Gl (S:=r) (x:=x) fun hx=>h (.tail _ hx)
  simp only [Az] at this
  rw [this]
open Go
def LeL:List V->List V->Prop
 |[],[]=>True
 |u::r,v::q=>(u=v\/Sm gV ⟨0,0⟩ gA u v)/\LeL r q
 |_,_=>False
theorem LeL.spec:∀ {l r:List V},LeL l r->l.length=r.length/\∀ (j:Nat) (v:V),r[j]? =some v->∃ u,l[j]? =some u/\(u=v\/Sm gV ⟨0,0⟩ gA u v)
 |[],[],_=>⟨rfl,fun j v h=>by simp at h⟩
 |[],_::_,h=>h.elim
 |_::_,[],h=>h.elim
 |u::r,v::q,h=>by
  obtain ⟨h1,h2⟩:=h
  obtain ⟨c1,c2⟩:=LeL.spec h2
  refine ⟨by simp [c1],fun j x hj=>?_⟩
  cases j with
  |zero=>simp at hj;subst hj;exact ⟨u,rfl,h1⟩
  |succ j=>simp at hj;obtain ⟨y,hy,hc⟩:=c2 j x hj;exact ⟨y,by simpa using hy,hc⟩
theorem aB.leq {P:Program} {f:Nat} {args args':List V} {h:aA} {K:V->aA->Prop} (hr:LeL args args') (h0:aB P f args' h K):aB P f args h K:=by
 refine ⟨h0.1,fun E w vs rX hs hv=>h0.2 E w vs rX hs ?_⟩
 obtain ⟨c1,c2⟩:=hr.spec
 refine ⟨by have:=hv.1;omega,fun j v x hj hx=>?_⟩
 obtain ⟨u,hu,hc|hc⟩:=c2 j v hj
 · subst hc;exact hv.2 j u x hu hx
 · exact HA hc (hv.2 j u x hu hx)
theorem aB.tell {P:Program} {f:Nat} {args:List V} {h:aA} {K K2:V->aA->Prop} (hA:aB P f args h K) (hm:∀ v h',K v h'->∃ v',(∀ (E:Env) (x:Value),Rel E v x->Rel E v' x)/\K2 v' h'):aB P f args h K2:=
 ⟨hA.1,fun E w vs hn hs hv=>(hA.2 E w vs hn hs hv).mono fun _ _ ⟨v,x,h',E',h1,h2,h3,h4,h5,h6⟩=>by
  obtain ⟨v',q1,q2⟩:=hm v h' h1
  exact ⟨v',x,h',E',q2,h2,h3,h4,h5,q1 E' x h6⟩⟩
theorem T7 (k:Nat) (rows:List (List V)):Ce gV ⟨0,0⟩ gA (.sl none k rows) (.sl none k rows):=.A6 (Hz _).symm trivial
theorem W2 {u v:V} (hc:Ce gV ⟨0,0⟩ gA u v) (E:Env) (x:Value) (h:Rel E u x):Rel E v x:=HA (.inl hc) h
end Go.Eng
