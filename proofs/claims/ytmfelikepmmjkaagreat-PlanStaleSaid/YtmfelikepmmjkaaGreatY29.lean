/-
A pod that was put is got.
-/
import Derived.Test.YtmfelikepmmjkaaGreatY28
import Derived.Test.YtmfelikepmmjkaaGreatY26
import Derived.Test.YtmfelikepmmjkaaGreatY22
import Derived.Sort.KeysCollected
import Derived.Sort.Walk0
import Derived.Test.YtmfelikepmmjkaaGreatY09
import Derived.Test.YtmfelikepmmjkaaGreatY23
set_option linter.unusedVariables false
set_option linter.unusedSimpArgs false
set_option maxHeartbeats 16000000
namespace Go.Eng
open Go
theorem JM {cs ds:List V} {b:Bool} (hc:yZ gV ⟨0,0⟩ gA cs ds) (E:Env) (x:Value) (h:Rel E (.bY [.agg cs,.b b]) x):Rel E (.bY [.agg ds,.b b]) x:=by
 cases h with
 |deep hd=>cases hd
 |bY _ xs hn hr=>
  refine .bY _ _ (by simpa using hn) fun j v x hj hx=>?_
  match j with
  |0=>
   simp at hj;subst hj
   exact HA (.inr (.inl ⟨_,_,rfl,rfl,hc⟩)) (hr 0 _ x rfl hx)
  |1=>
   simp at hj;subst hj
   exact hr 1 _ x rfl hx
  |j+2=>simp at hj
section
variable {P:Program} (hG:bN P AF.fns.get)
include hG
theorem rget_at (fD:eD P 285) (p:aO) (hp:HQ p) (hm:Pure P 115 [.agg (aJ p)] (·=.b true)) {h:aA} {K:V->aA->Prop}
 (hK:∀ h',aA.aI (fun _=>False) h h'->K (.bY [.agg (aJ p),.b true]) h'):aB P 53 [.sl none 1 ((bW p).map gH)] h K:=by
 refine aB.more (rget0_at hG fD p hp hm (K:=fun v h'=>∃ cs,v=.bY [.agg cs,.b true]/\yZ gV ⟨0,0⟩ gA cs (aJ p)/\K (.bY [.agg (aJ p),.b true]) h') fun cs h' hc hk=>⟨cs,rfl,hc,hK h' hk⟩) ?_
 rintro v h' ⟨cs,rfl,hc,hk⟩
 exact ⟨_,fun E x hx=>JM hc E x hx,hk⟩
end
open Go
theorem Bl:∀ l:List aU,(l.map bG).flatten=l.map V.s
 |[]=>rfl
 |x::r=>by rw [List.map_cons,List.flatten_cons,Bl r];rfl
def lX (ks:List aU):List aU:=ks.mergeSort Go.leB
structure dJ where
 key:aU
 rev:Int
 val:List Int
def lN (e:dJ):List V:=[.s e.key,.i .i64 e.rev,.sl none 1 (e.val.map gH)]
def JN (e:dJ):V×V:=(.s e.key,.agg (lN e))
def eM:List dJ->aU->Option dJ
 |[],_=>none
 |x::r,k=>if k=x.key then some x else eM r k
def jJ:List dJ->dJ->List dJ
 |[],e=>[e]
 |x::r,e=>if e.key=x.key then e::r else x::jJ r e
def LN:List dJ->aU->List dJ
 |[],_=>[]
 |x::r,k=>if k=x.key then r else x::LN r k
theorem CP (x y:aU):tO (.s x) (.s y)=decide (x=y):=by
 show (x==y)=_
 by_cases h:x=y
 · subst h;simp
 · rw [decide_eq_false h];simp [h]
theorem Av (k:aU):∀ D:List dJ,pX (D.map JN) (.s k)=(eM D k).map fun e=>.agg (lN e)
 |[]=>rfl
 |x::r=>by
  simp only [List.map_cons,JN,pX,eM,CP]
  by_cases h:k=x.key
  · simp [h]
  · simp only [h,decide_false,Bool.false_eq_true,if_false];exact Av k r
theorem MZ (e:dJ):∀ D:List dJ,y9 (D.map JN) (.s e.key) (.agg (lN e))=(jJ D e).map JN
 |[]=>rfl
 |x::r=>by
  simp only [List.map_cons,JN,y9,jJ,CP]
  by_cases h:e.key=x.key
  · simp [h,JN]
  · simp only [h,decide_false,Bool.false_eq_true,if_false,List.map_cons,JN]
    exact congrArg _ (MZ e r)
theorem M0 (k:aU):∀ D:List dJ,E9 (D.map JN) (.s k)=(LN D k).map JN
 |[]=>rfl
 |x::r=>by
  simp only [List.map_cons,JN,E9,LN,CP]
  by_cases h:k=x.key
  · simp [h]
  · simp only [h,decide_false,Bool.false_eq_true,if_false,List.map_cons,JN]
    exact congrArg _ (M0 k r)
theorem JO {k:aU} {e:dJ}:∀ {D:List dJ},eM D k=some e->e.key=k
 |x::r,h=>by
  unfold eM at h
  split at h
  · cases h;rename_i hk;exact hk.symm
  · exact JO h
theorem JP {k:aU} {e:dJ}:∀ {D:List dJ},eM D k=some e->e∈D
 |x::r,h=>by
  unfold eM at h
  split at h
  · cases h;exact .head _
  · exact .tail _ (JP h)
theorem kS {k:aU}:∀ {D:List dJ},eM D k=none↔k∉D.map (·.key)
 |[]=>by simp [eM]
 |x::r=>by
  unfold eM
  by_cases h:k=x.key
  · simp [h]
  · simp only [h,if_false,List.map_cons,List.mem_cons,false_or]
    exact kS
theorem BQ (k:aU):∀ (A B:List dJ),eM (A++B) k=(eM A k).or (eM B k)
 |[],B=>by simp [eM]
 |x::r,B=>by
  simp only [List.cons_append,eM]
  split
  · rfl
  · exact BQ k r B
theorem vD (k:aU) (q:aU->Bool):∀ D:List dJ,eM (D.filter fun x=>q x.key) k=if q k then eM D k else none
 |[]=>by simp [eM]
 |x::r=>by
  have ih:=vD k q r
  by_cases h:q x.key=true
  · rw [List.filter_cons_of_pos (by exact h)]
    simp only [eM,ih]
    by_cases hk:k=x.key
    · subst hk;simp [h]
    · simp [hk]
  · rw [List.filter_cons_of_neg (by exact h),ih]
    simp only [eM]
    by_cases hk:k=x.key
    · subst hk;simp [h]
    · simp [hk]
theorem Aw (e:dJ) (k:aU):∀ D:List dJ,eM (jJ D e) k=if k=e.key then some e else eM D k
 |[]=>by simp [jJ,eM]
 |x::r=>by
  unfold jJ
  by_cases h:e.key=x.key
  · simp only [h,if_true,eM]
    split<;>rfl
  · simp only [h,if_false,eM,Aw e k r]
    by_cases hk:k=x.key
    · subst hk;simp [Ne.symm h]
    · simp [hk]
theorem Ou (e:dJ):∀ (D:List dJ) (k:aU),k∈(jJ D e).map (·.key)↔k=e.key\/k∈D.map (·.key)
 |D,k=>by
  have h:=Aw e k D
  by_cases hk:k=e.key
  · rw [if_pos hk] at h
    refine ⟨fun _=>.inl hk,fun _=>?_⟩
    refine Classical.byContradiction fun hc=>?_
    rw [kS.2 hc] at h;cases h
  · rw [if_neg hk] at h
    constructor
    · intro h1
      refine .inr (Classical.byContradiction fun hc=>?_)
      rw [kS.2 hc] at h
      exact kS.1 h h1
    · rintro (h1|h1)
      · exact absurd h1 hk
      · refine Classical.byContradiction fun hc=>?_
        rw [kS.2 hc] at h
        exact kS.1 h.symm h1
theorem Ey (e:dJ):∀ {D:List dJ},(D.map (·.key)).Nodup->((jJ D e).map (·.key)).Nodup
 |[],_=>by simp [jJ]
 |x::r,hn=>by
  rw [List.map_cons,List.nodup_cons] at hn
  unfold jJ
  by_cases h:e.key=x.key
  · rw [if_pos h,List.map_cons,List.nodup_cons,h];exact hn
  · rw [if_neg h,List.map_cons,List.nodup_cons]
    refine ⟨fun hc=>?_,Ey e hn.2⟩
    rcases (Ou e r x.key).1 hc with h1|h1
    · exact h h1.symm
    · exact hn.1 h1
theorem JQ (k:aU):∀ D:List dJ,(LN D k).Sublist D
 |[]=>.slnil
 |x::r=>by
  unfold LN
  split
  · exact .cons _ (.refl _)
  · exact .cons_cons _ (JQ k r)
theorem vE (e:dJ):∀ D:List dJ,(jJ D e).length<=D.length+1
 |[]=>Nat.le_refl _
 |x::r=>by
  unfold jJ
  have:=vE e r
  split<;>simp only [List.length_cons]<;>omega
theorem JR {e x:dJ}:∀ {D:List dJ},x∈jJ D e->x=e\/x∈D
 |[],h=>by simp [jJ] at h;exact .inl h
 |y::r,h=>by
  unfold jJ at h
  split at h
  · cases h with
    |head=>exact .inl rfl
    |tail _ h=>exact .inr (.tail _ h)
  · cases h with
    |head=>exact .inr (.head _)
    |tail _ h=>
     rcases JR h with h1|h1
     · exact .inl h1
     · exact .inr (.tail _ h1)
def Ez (e:dJ):Bool->List dJ->List dJ
 |done,[]=>if done then [] else [e]
 |done,x::r=>if x.key=e.key then Ez e done r else if (!done&&Op.bytesLess e.key x.key)=true then e::x::Ez e true r else x::Ez e done r
def sX (L:List dJ):Prop:=L.Pairwise fun a b=>cC a.key b.key
theorem wI (e:dJ):∀ L:List dJ,Ez e true L=L.filter fun x=>x.key !=e.key
 |[]=>rfl
 |x::r=>by
  unfold Ez
  by_cases h:x.key=e.key
  · rw [if_pos h,wI e r,List.filter_cons_of_neg (by simp [h])]
  · rw [if_neg h,if_neg (by simp),wI e r,List.filter_cons_of_pos (by simpa using h)]
theorem vF (e:dJ):∀ {L:List dJ},sX L->Ez e false L=(L.filter fun x=>Op.bytesLess x.key e.key)++e::L.filter fun x=>Op.bytesLess e.key x.key
 |[],_=>rfl
 |x::r,hs=>by
  unfold sX at hs
  rw [List.pairwise_cons] at hs
  unfold Ez
  by_cases h:x.key=e.key
  · rw [if_pos h,vF e hs.2,List.filter_cons_of_neg (by rw [h,kB];simp),List.filter_cons_of_neg (by rw [h,kB];simp)]
  · rw [if_neg h]
    by_cases hl:Op.bytesLess e.key x.key=true
    · rw [if_pos (by simpa using hl),wI]
      have h1:∀ y∈r,Op.bytesLess e.key y.key=true:=fun y hy=>jE hl (hs.1 y hy)
      have h2:∀ y∈r,Op.bytesLess y.key e.key=false:=fun y hy=>sN (h1 y hy)
      have e1:(r.filter fun x=>x.key !=e.key)=r:=List.filter_eq_self.2 fun y hy=>by
       simp only [bne_iff_ne,ne_eq]
       intro hc
       have:=h1 y hy
       rw [hc,kB] at this
       cases this
      have e2:(r.filter fun x=>Op.bytesLess x.key e.key)=[]:=List.filter_eq_nil_iff.2 fun y hy=>by rw [h2 y hy];simp
      have e3:(r.filter fun x=>Op.bytesLess e.key x.key)=r:=List.filter_eq_self.2 h1
      rw [List.filter_cons_of_neg (by rw [sN hl];simp),List.filter_cons_of_pos (by exact hl),e1,e2,e3]
      rfl
    · rw [if_neg (by simpa using hl),vF e hs.2]
      have hf:Op.bytesLess e.key x.key=false:=by simpa using hl
      have h3:=nA hf (Ne.symm h)
      rw [List.filter_cons_of_pos (by exact h3),List.filter_cons_of_neg (by rw [hf];simp)]
      rfl
theorem Ov {e:dJ} {done:Bool} {L:List dJ} (h:sX L):sX (Ez e done L):=by
 cases done
 · rw [vF e h]
   unfold sX
   refine List.pairwise_append.2 ⟨List.Pairwise.sublist List.filter_sublist h,List.pairwise_cons.2 ⟨fun y hy=>?_,List.Pairwise.sublist List.filter_sublist h⟩,fun x hx y hy=>?_⟩
   · exact (List.mem_filter.1 hy).2
   · have h1:cC x.key e.key:=(List.mem_filter.1 hx).2
     rcases List.mem_cons.1 hy with rfl|hy
     · exact h1
     · exact jE h1 (List.mem_filter.1 hy).2
 · rw [wI]
   exact List.Pairwise.sublist List.filter_sublist h
theorem RB {e:dJ} {L:List dJ} (h:sX L) (k:aU):eM (Ez e false L) k=if k=e.key then some e else eM L k:=by
 rw [vF e h,BQ,vD k (fun z=>Op.bytesLess z e.key)]
 simp only [eM]
 rw [vD k (fun z=>Op.bytesLess e.key z)]
 by_cases hk:k=e.key
 · subst hk
   rw [kB];simp
 · simp only [hk,if_false]
   cases h1:Op.bytesLess k e.key with
   |true=>
    rw [sN h1]
    simp only [if_true,Bool.false_eq_true,if_false]
    cases eM L k<;>rfl
   |false=>
    rw [nA h1 hk]
    simp
structure jW (D L:List dJ):Prop where
 fnd:∀ k,eM D k=eM L k
 nd:(D.map (·.key)).Nodup
 rO:sX L
theorem jW.nil:jW [] []:=⟨fun _=>rfl,.nil,.nil⟩
theorem jW.put {D L:List dJ} (h:jW D L) (e:dJ):jW (jJ D e) (Ez e false L):=
 ⟨fun k=>by rw [Aw,RB h.rO,h.fnd],Ey e h.nd,Ov h.rO⟩
theorem sX.nodup {L:List dJ} (h:sX L):(L.map (·.key)).Nodup:=
 List.Pairwise.map _ (fun a b Q3 e=>by
  have:cC a.key b.key:=Q3
  rw [e] at this
  unfold cC at this
  rw [kB] at this
  cases this) h
theorem sX.get:∀ {L:List dJ},sX L->∀ e∈L,eM L e.key=some e
 |x::r,h,e,he=>by
  unfold sX at h
  rw [List.pairwise_cons] at h
  unfold eM
  rcases List.mem_cons.1 he with rfl|he
  · simp
  · rw [if_neg,sX.get h.2 e he]
    intro hc
    have:cC x.key e.key:=h.1 e he
    rw [hc] at this
    unfold cC at this
    rw [kB] at this
    cases this
theorem jW.get {D L:List dJ} (h:jW D L) {e:dJ} (he:e∈L):eM D e.key=some e:=by rw [h.fnd];exact h.rO.get e he
theorem jW.keys {D L:List dJ} (h:jW D L):lX (D.map (·.key))=L.map (·.key):=by
 have hp:(D.map (·.key)).Perm (L.map (·.key)):=(List.perm_ext_iff_of_nodup h.nd h.rO.nodup).2 fun k=>by
  have h1:=kS (k:=k) (D:=D)
  have h2:=kS (k:=k) (D:=L)
  rw [h.fnd k] at h1
  have h3:=h1.symm.trans h2
  exact Decidable.not_iff_not.1 h3
 rw [lX,Go.mergeSort_of_perm hp]
 refine List.mergeSort_of_pairwise (List.Pairwise.map _ (fun a b Q3=>?_) h.rO)
 have h1:cC a.key b.key:=Q3
 unfold cC at h1
 rw [Go.Proofs.bytesLess_eq,decide_eq_true_eq] at h1
 simp only [Go.leB,decide_eq_true_eq]
 exact List.le_of_lt h1
theorem jW.len {D L:List dJ} (h:jW D L):D.length=L.length:=by
 have hp:=congrArg List.length h.keys
 simpa [lX] using hp
open Go
structure j1 where
 e:dJ
 gone:Bool
def kU (x:j1):List V:=[.i .i64 x.e.rev,.s x.e.key,.sl none 1 (x.e.val.map gH),.b x.gone]
def Z9:List V:=[.s [],.i .i64 0,.aV]
structure RD (e:dJ):Prop where
 val:e.val.length*1<=140737488355328
 key:e.key.length<=9223372036854775807
def nM (D:List dJ) (x:j1):List dJ:=if x.gone then LN D x.e.key else jJ D x.e
open Go
structure Ax (P:Program):Prop where
 keys:∀ (h:aA) (k mk:Nat) (c:List V) (es:List (V×V)) (ks:List (List UInt8)),h.get k=some (.cs c)->c[0]? =some (.m (.g mk))->h.get mk=some (.mp none es)->es.map Prod.fst=ks.map V.s->ks.Nodup->
  (∀ x∈ks,x.length<=9223372036854775807)->ks.length<=1000000->∀ K:V->aA->Prop,K (.sl none 1 ((lX ks).map bG)) h->aB P 54 [.fn 139 [] [.p (.g k) 0]] h K
 none:∀ (h:aA) (k:Nat) (c:List V),h.get k=some (.cs c)->c[0]? =some .gC->∀ K:V->aA->Prop,K .aV h->aB P 54 [.fn 139 [] [.p (.g k) 0]] h K
def RE (lv:V) (L:List dJ):Prop:=(lv=.aV/\L=[])\/lv=.sl none 3 (L.map lN)
open Go
theorem aA.aI.comp {b b2:Nat->Prop} {h1 h2 h3:aA} (a:aA.aI b h1 h2) (c:aA.aI b2 h2 h3) (hs:∀ n,n<h1.next->b2 n->b n):aA.aI b h1 h3:=
 ⟨Nat.le_trans a.next c.next,fun n hn hb=>(c.same n (Nat.lt_of_lt_of_le hn a.next) fun e=>hb (hs n hn e)).trans (a.same n hn hb)⟩
def CQ:List V:=[.i .i64 0,.s [],.aV,.b false]
theorem EA (L:List j1) (d:Nat):(L.map kU++List.replicate d CQ).length=L.length+d:=by simp
theorem RF {L:List j1} {d i:Nat} {x:j1} {j:Nat} (hj:j=i) (h:L[i]? =some x):(L.map kU++List.replicate d CQ)[0+j]? =some (kU x):=by
 subst hj
 have:=(List.getElem?_eq_some_iff.1 h).1
 rw [Nat.zero_add,List.getElem?_append_left (by simpa using this),List.getElem?_map,h];rfl
def lO (p:j1->Bool) (L:List j1):List j1:=L.filter fun o=>!p o
structure Cm (p:j1->Bool) (L M:List j1) (j m:Nat):Prop where
 len:M.length=L.length
 take:M.take j=lO p (L.take m)
 drop:M.drop m=L.drop m
 jm:j<=m
 jl:j=(lO p (L.take m)).length
theorem EB {p:j1->Bool} {L:List j1} (h:∀ (j:Nat) (e:j1),L[j]? =some e->p e=false):lO p L=L:=by
 unfold lO
 refine List.filter_eq_self.2 fun a ha=>?_
 obtain ⟨j,hj⟩:=List.mem_iff_getElem?.1 ha
 rw [h j a hj];rfl
theorem Cm.start {p:j1->Bool} {L:List j1} {i:Nat} {e:j1} (he:L[i]? =some e) (hp:p e=true) (nY:∀ (j:Nat) (x:j1),j<i->L[j]? =some x->p x=false):Cm p L L i (i+1):=by
 have hi:=(List.getElem?_eq_some_iff.1 he).1
 have h1:lO p (L.take i)=L.take i:=EB fun j x hj=>by
  have xF:j<i:=by have:=(List.getElem?_eq_some_iff.1 hj).1;simp at this;omega
  rw [List.getElem?_take_of_lt xF] at hj
  exact nY j x xF hj
 have h2:lO p (L.take (i+1))=L.take i:=by
  rw [List.take_add_one,he]
  unfold lO at h1 ⊢
  rw [List.filter_append,h1]
  simp [hp]
 exact ⟨rfl,h2.symm,rfl,by omega,by rw [h2,List.length_take];omega⟩
theorem Cm.skip {p:j1->Bool} {L M:List j1} {j m:Nat} (h:Cm p L M j m) {x:j1} (hx:L[m]? =some x) (hp:p x=true):Cm p L M j (m+1):=by
 have h2:lO p (L.take (m+1))=lO p (L.take m):=by
  rw [List.take_add_one,hx];unfold lO;simp [List.filter_append,hp]
 have hm:=(List.getElem?_eq_some_iff.1 hx).1
 refine ⟨h.len,by rw [h2];exact h.take,?_,by have:=h.jm;omega,by rw [h2];exact h.jl⟩
 have:=congrArg (List.drop 1) h.drop
 rwa [List.drop_drop,List.drop_drop] at this
theorem Cm.eK {p:j1->Bool} {L M:List j1} {j m:Nat} (h:Cm p L M j m) {x:j1} (hx:L[m]? =some x) (hp:p x=false):Cm p L (M.set j x) (j+1) (m+1):=by
 have hm:=(List.getElem?_eq_some_iff.1 hx).1
 have hj:j<M.length:=by have:=h.jm;have:=h.len;omega
 have h2:lO p (L.take (m+1))=lO p (L.take m)++[x]:=by
  rw [List.take_add_one,hx];unfold lO;simp [List.filter_append,hp]
 refine ⟨by rw [List.length_set];exact h.len,?_,?_,by have:=h.jm;omega,by rw [h2,List.length_append,<-h.jl];rfl⟩
 · rw [h2,<-h.take,List.take_add_one,List.getElem?_set_self hj,List.take_set_of_le (Nat.le_refl j)];rfl
 · rw [List.drop_set_of_lt (by have:=h.jm;omega)]
   have:=congrArg (List.drop 1) h.drop
   rwa [List.drop_drop,List.drop_drop] at this
theorem Cm.get {p:j1->Bool} {L M:List j1} {j m:Nat} (h:Cm p L M j m) {x:j1} (hx:L[m]? =some x):M[m]? =some x:=by
 have h1:(M.drop m)[0]? =(L.drop m)[0]? :=by rw [h.drop]
 rw [List.getElem?_drop,List.getElem?_drop,Nat.add_zero] at h1
 rw [h1];exact hx
theorem JS {M:List j1} {J:List (List V)} {k i:Nat} {x:j1} (hk:k=i) (h:M[i]? =some x):(M.map kU++J)[0+k]? =some (kU x):=by
 subst hk
 have:=(List.getElem?_eq_some_iff.1 h).1
 rw [Nat.zero_add,List.getElem?_append_left (by simpa using this),List.getElem?_map,h];rfl
theorem RG {M:List j1} {J:List (List V)} {k j:Nat} {x:j1} (hk:k=j) (h:j<M.length):(M.map kU++J).set (0+k) (kU x)=(M.set j x).map kU++J:=by
 subst hk
 rw [Nat.zero_add,List.set_append_left _ _ (by simpa using h),<-List.map_set]
theorem LO {M K:List j1} {d n j a b c:Nat} (ha:a=j) (hb:b=n - j) (hc:c=n) (hn:M.length=n) (hj:j<=n) (hK:M.take j=K):
 List.take a (M.map kU++List.replicate d CQ)++List.replicate b CQ++List.drop c (M.map kU++List.replicate d CQ)=K.map kU++List.replicate (n - j+d) CQ:=by
 subst ha hb hc hK
 have h1:(M.map kU).length=c:=by simpa using hn
 rw [List.take_append_of_le_length (by omega),List.drop_append,List.drop_of_length_le (by omega),h1,Nat.sub_self,List.drop_zero,List.nil_append,<-List.map_take,List.append_assoc,List.replicate_append_replicate]
section
variable {P:Program} (hG:bN P AF.fns.get)
include hG
theorem eidx_at {h:aA} {c d g k1:Nat} {L:List j1} (X1:c<h.next) (hc:h.get c=some (.arr 4 (L.map kU++List.replicate d CQ))) (hl:L.length<=100000) {p:j1->Bool}
 (hg:∀ h',aA.aI (fun n=>n=c) h h'->∀ e∈L,∀ K:V->aA->Prop,(∀ h'',aA.aI (fun _=>False) h' h''->K (.b (p e)) h'')->aB P g (.agg (kU e)::[.p (.g k1) 0]) h' K) {K:V->aA->Prop}
 (hK:∀ h',aA.aI (fun _=>False) h h'->K (.i .i64 (gB p L)) h'):aB P 284 [.ms (.g c) 4 0 L.length,.fn g [] [.p (.g k1) 0]] h K:=by
 have KA:=EA L d
 refine aN (hG _ AF.f284 rfl) rfl ?_
 (refine zr ?_)
 refine bV.by (fun q fr st=>∃ (i:Nat) (hh lc:aA),i<=L.length/\q=L.length - i/\(∀ (j:Nat) (e:j1),j<i->L[j]? =some e->p e=false)/\aA.aI (fun _=>False) h hh/\
  Fr.le [(8,.i .i64 i),(7,.i .i64 L.length),(1,.fn g [] [.p (.g k1) 0]),(0,.ms (.g c) 4 0 L.length)] fr/\st=⟨hh,lc⟩)
  L.length ⟨0,h,_,Nat.zero_le _,rfl,(fun j e hj=>absurd hj (Nat.not_lt_zero _)),.refl _ _,dK,rfl⟩ ?_
 rintro q fr st ⟨i,hh,lc,hi,rfl,nY,hk,dO,rfl⟩
 refine ⟨_,dO,fun R hR=>?_⟩
 by_cases eB:i<L.length
 · have he:=List.getElem?_eq_getElem eB
   have BA:=List.getElem_mem eB
   generalize L[i]=e at he BA
   have nC:=fun K hK=>hg hh (hk.mono fun _ _ e=>e.elim) e BA K hK
   have GQ:hh.get c=some (.arr 4 (L.map kU++List.replicate d CQ)):=by rw [hk.2 c X1 (fun x=>x)];exact hc
   ((conv=>whnf);repeat ((first|refine aH.dt (show (i:Int)<(L.length:Nat) by omega) ?_|refine aK.ix (by omega) (by omega) ?_|refine aK.mk (decide_eq_true (by omega)) ?_|refine cA (nC _) ?_|refine ye (GQ) ?_|refine ye (RF (by omega) he) ?_|refine zz ?_)<;>(conv=>whnf)))
   intro h2 qO
   cases hp:p e
   · (refine zr ?_)
     exact hR (L.length - (i+1)) _ _ (by omega) ⟨i+1,h2,_,by omega,rfl,(fun j x hj hx=>by
      by_cases xF:j<i
      · exact nY j x xF hx
      · obtain rfl:j=i:=by omega
        rw [he] at hx;cases hx;exact hp),hk.trans qO,dK,rfl⟩
   · (refine zr ?_)
     have:=hK h2 (hk.trans qO)
     rw [cX he hp nY] at this
     exact this
 · (refine cJ (show ¬(i:Int)<(L.length:Nat) by omega) ?_)
   have:=hK hh hk
   rw [dF fun j x hx=>nY j x (by have:=(List.getElem?_eq_some_iff.1 hx).1;omega) hx] at this
   exact this
theorem edel_at {h:aA} {c d g k1:Nat} {L:List j1} (X1:c<h.next) (hc:h.get c=some (.arr 4 (L.map kU++List.replicate d CQ))) (hl:L.length<=100000) {p:j1->Bool}
 (hg:∀ h',aA.aI (fun n=>n=c) h h'->∀ e∈L,∀ K:V->aA->Prop,(∀ h'',aA.aI (fun _=>False) h' h''->K (.b (p e)) h'')->aB P g (.agg (kU e)::[.p (.g k1) 0]) h' K) {K:V->aA->Prop}
 (hK:∀ h' d',h'.get c=some (.arr 4 ((lO p L).map kU++List.replicate d' CQ))->aA.aI (fun n=>n=c) h h'->K (.ms (.g c) 4 0 (lO p L).length) h'):
 aB P 206 [.ms (.g c) 4 0 L.length,.fn g [] [.p (.g k1) 0]] h K:=by
 have KA:=EA L d
 have lQ:=fun (K:V->aA->Prop) hK=>eidx_at (K:=K) hG X1 hc hl hg hK
 cases Fa:L.findIdx? p with
 |none=>
  have nY:∀ (j:Nat) (e:j1),L[j]? =some e->p e=false:=fun j e he=>by
   have:=List.findIdx?_eq_none_iff.1 Fa e (List.mem_of_getElem? he)
   simpa using this
  rw [dF nY] at lQ
  rw [EB nY] at hK
  refine aN (hG _ AF.f206 rfl) rfl ?_
  (refine cJ @lQ ?_)
  intro h1 Cf
  (refine zr ?_)
  exact hK h1 d (by rw [Cf.2 c X1 (fun x=>x)];exact hc) (Cf.mono fun _ _ e=>e.elim)
 |some i0=>
  rw [List.findIdx?_eq_some_iff_getElem] at Fa
  obtain ⟨Cs,E6,wB⟩:=Fa
  have ON:=List.getElem?_eq_getElem Cs
  have nY:∀ (j:Nat) (x:j1),j<i0->L[j]? =some x->p x=false:=fun j x hj hx=>by
   have:=wB j hj
   rw [List.getElem?_eq_getElem (by omega)] at hx
   cases hx
   simpa using this
  rw [cX ON E6 nY] at lQ
  have vO:=Cm.start ON E6 nY
  refine aN (hG _ AF.f206 rfl) rfl ?_
  (refine cJ @lQ ?_)
  intro h1 Cf
  (refine cJ (show ¬(i0:Int)=-1 by omega) ?_)
  refine bV.by (fun q fr st=>∃ (j m:Nat) (M:List j1) (hh lc:aA),q=L.length - m/\m<=L.length/\Cm p L M j m/\hh.get c=some (.arr 4 (M.map kU++List.replicate d CQ))/\aA.aI (fun n=>n=c) h hh/\
   Fr.le [(6,.i .i64 m),(5,.i .i64 j),(1,.fn g [] [.p (.g k1) 0]),(0,.ms (.g c) 4 0 L.length)] fr/\st=⟨hh,lc⟩)
   (L.length - (i0+1)) ⟨i0,i0+1,L,h1,_,rfl,by omega,vO,by rw [Cf.2 c X1 (fun x=>x)];exact hc,Cf.mono fun _ _ e=>e.elim,dK,rfl⟩ ?_
  rintro q fr st ⟨j,m,M,hh,lc,rfl,hm,hd,Cw,hk,dO,rfl⟩
  refine ⟨_,dO,fun R hR=>?_⟩
  have hML:=hd.len
  have hjm:=hd.jm
  have Bf:=EA M d
  by_cases eB:m<L.length
  · have he:=List.getElem?_eq_getElem eB
    have BA:=List.getElem_mem eB
    generalize L[m]=e at he BA
    have a1:∀ x,(lc.push x).get lc.next=some x:=fun x=>aA.aC _ _
    have a2:∀ x y,((lc.push x).set lc.next y).get lc.next=some y:=fun x y=>aA.aD (a1 x)
    have nC:=fun K hK=>hg hh hk e BA K hK
    have fC:=JS (J:=List.replicate d CQ) (k:=((m:Nat):Int).toNat) (by omega) (hd.get he)
    ((conv=>whnf);repeat ((first|refine aH.dt (show (m:Int)<(L.length:Nat) by omega) ?_|refine aK.ix (by omega) (by omega) ?_|refine aK.mk (decide_eq_true (by omega)) ?_|refine cA (nC _) ?_|refine ye (Cw) ?_|refine ye (fC) ?_|refine ye (a1 _) ?_|refine ye (a2 _ _) ?_|refine zz ?_)<;>(conv=>whnf)))
    intro h2 qO
    have WW:h2.get c=some (.arr 4 (M.map kU++List.replicate d CQ)):=by rw [qO.2 c (Nat.lt_of_lt_of_le X1 hk.1) (fun x=>x)];exact Cw
    have yY:aA.aI (fun n=>n=c) h h2:=hk.trans (qO.mono fun _ _ e=>e.elim)
    cases hp:p e
    · have hj:j<M.length:=by omega
      have hy:=List.getElem?_eq_getElem hj
      generalize M[j]=y at hy
      have hgy:=JS (J:=List.replicate d CQ) (k:=((j:Nat):Int).toNat) (by omega) hy
      have Kv:=RG (J:=List.replicate d CQ) (k:=((j:Nat):Int).toNat) (x:=e) (by omega) hj
      ((conv=>whnf);repeat ((first|refine aH.ff (show (!true)=false from rfl) ?_|refine aK.ix (by omega) (by omega) ?_|refine aK.mk (decide_eq_true (by omega)) ?_|refine aQ.gS (by omega) (by omega) ?_|refine ye (WW) ?_|refine ye (hgy) ?_|refine ye (a1 _) ?_|refine ye (a2 _ _) ?_|refine ye (congrArg some Kv) ?_|refine zz ?_)<;>(conv=>whnf)))
      exact hR (L.length - (m+1)) _ _ (by omega) ⟨j+1,m+1,M.set j e,_,_,rfl,by omega,hd.eK he hp,aA.aD WW,aA.aI.set (b:=fun n=>n=c) yY (.inl rfl) _,dK,rfl⟩
    · (refine iU @a1 @a2 ?_)
      exact hR (L.length - (m+1)) _ _ (by omega) ⟨j,m+1,M,h2,_,rfl,by omega,hd.skip he hp,WW,yY,dK,rfl⟩
  · obtain rfl:m=L.length:=by omega
    have GS:=hd.jl
    have Z1:=hd.take
    rw [List.take_length] at GS Z1
    have nC:=LO (K:=lO p L) (d:=d) (n:=L.length) (j:=j) (a:=0+((j:Nat):Int).toNat) (b:=(((L.length:Nat)):Int).toNat - ((j:Nat):Int).toNat) (c:=0+((j:Nat):Int).toNat+((((L.length:Nat)):Int).toNat - ((j:Nat):Int).toNat)) (by omega) (by omega) (by omega) hML hjm Z1
    have:=hK (hh.set c (.arr 4 ((lO p L).map kU++List.replicate (L.length - j+d) CQ))) (L.length - j+d) (aA.aD Cw) (aA.aI.set (b:=fun n=>n=c) hk (.inl rfl) _)
    rw [<-GS,<-nC] at this
    ((conv=>whnf);repeat ((first|refine aH.df (show ¬((L.length:Nat):Int)<(L.length:Nat) by omega) ?_|refine aK.d3 (by omega) (by omega) (by omega) ?_|refine aK.mk (decide_eq_true (by omega)) ?_|refine aK.d3 (by omega) (by omega) (by first|omega|(simp;omega)) ?_|refine ye (Cw) ?_|refine ye (aA.aD Cw) ?_|refine zz ?_)<;>(conv=>whnf)))
    exact this
end
def Cn (h:aA) (g:Nat) (r:Option Nat) (L:List j1) (base last:Int):Prop:=
 g<h.next/\((r=none/\L=[]/\h.get g=some (.cs [.aV,.i .i64 64,.i .i64 base,.i .i64 last]))\/
  ∃ c d,r=some c/\c≠g/\c<h.next/\h.get g=some (.cs [.ms (.g c) 4 0 L.length,.i .i64 64,.i .i64 base,.i .i64 last])/\h.get c=some (.arr 4 (L.map kU++List.replicate d CQ)))
theorem Cn.eK {h h':aA} {g:Nat} {r:Option Nat} {L:List j1} {base last:Int} (ha:Cn h g r L base last) {but:Nat->Prop} (hk:aA.aI but h h') (hb:¬but g) (hr:∀ k,r=some k->¬but k):Cn h' g r L base last:=by
 obtain ⟨h1,⟨h2,h3,h4⟩|⟨c,d,h2,h3,h4,h5,h6⟩⟩:=ha
 · exact ⟨Nat.lt_of_lt_of_le h1 hk.1,.inl ⟨h2,h3,by rw [hk.2 g h1 hb];exact h4⟩⟩
 · exact ⟨Nat.lt_of_lt_of_le h1 hk.1,.inr ⟨c,d,h2,h3,Nat.lt_of_lt_of_le h4 hk.1,by rw [hk.2 g h1 hb];exact h5,by rw [hk.2 c h4 (hr c h2)];exact h6⟩⟩
def Ay (base last r:Int):Int:=if base<(if last<r then last else r) then (if last<r then last else r) else base
section
variable {P:Program} (hG:bN P AF.fns.get)
include hG
theorem ecut_at {e:j1} {r:Int} {h:aA} {k:Nat} (hk:h.get k=some (.cs [.i .i64 r])) {K:V->aA->Prop} (hK:K (.b (decide (e.e.rev<=r))) h):aB P 207 [.agg (kU e),.p (.g k) 0] h K:=by
 refine jG (hG _ AF.f207 rfl) rfl ?_
 (refine cJ @hk ?_)
 exact hK
theorem lcut_at {h:aA} {g:Nat} {r:Option Nat} {L:List j1} {base last:Int} (hl:Cn h g r L base last) (hn:L.length<=100000) (rev:Int) {K:V->aA->Prop}
 (hK:∀ h',Cn h' g r (L.filter fun x=>decide (rev<x.e.rev)) (Ay base last rev) last->aA.aI (fun n=>n=g\/r=some n) h h'->K (.bY []) h'):
 aB P 107 [.p (.g g) 0,.i .i64 rev] h K:=by
 have OT:lO (fun x=>decide (x.e.rev<=rev)) L=L.filter fun x=>decide (rev<x.e.rev):=by
  unfold lO
  refine List.filter_congr fun x _=>?_
  show (!decide (x.e.rev<=rev))=decide (rev<x.e.rev)
  by_cases c:x.e.rev<=rev
  · rw [decide_eq_true c,decide_eq_false (by omega)];rfl
  · rw [decide_eq_false c,decide_eq_true (by omega)];rfl
 obtain ⟨h1,⟨Im,hL0,h2⟩|⟨c,d,Im,h2,h3,h4,h5⟩⟩:=hl
 · subst hL0
   have g1:∀ x,(h.push x).get g=some (.cs [.aV,.i .i64 64,.i .i64 base,.i .i64 last]):=fun x=>aA.gp (by omega) h2
   have g2:∀ x y,((h.push x).set g y).get g=some y:=fun x y=>aA.aD (g1 x)
   have g3:∀ x y,((h.push x).set g y).get h.next=some x:=fun x y=>aA.gs (by omega) (aA.aC _ _)
   refine jG (hG _ AF.f107 rfl) rfl ?_
   ((conv=>whnf);repeat ((first|refine cA (jG (hG _ AF.f206 rfl) rfl) ?_|refine cA (jG (hG _ AF.f284 rfl) rfl) ?_|refine fQ.un rfl ?_|refine aZ.of (UY (z:=if last<rev then last else rev) rfl) ?_|refine aZ.of (Tt (z:=Ay base last rev) rfl) ?_|refine ye (g1 _) ?_|refine ye (g2 _ _) ?_|refine ye (g3 _ _) ?_|refine ye (aA.aD (g2 _ _)) ?_|refine zz ?_)<;>(conv=>whnf)))
   exact hK _ ⟨(by show g<h.next+1;omega),.inl ⟨Im,rfl,aA.aD (g2 _ _)⟩⟩ (aA.aI.set (b:=fun n=>n=g\/r=some n) (aA.aI.set (b:=fun n=>n=g\/r=some n) (.push (.refl _ _) _) (.inl (.inl rfl)) _) (.inl (.inl rfl)) _)
 · have g1:∀ x,(h.push x).get g=some (.cs [.ms (.g c) 4 0 L.length,.i .i64 64,.i .i64 base,.i .i64 last]):=fun x=>aA.gp (by omega) h4
   have g2:∀ x,(h.push x).get c=some (.arr 4 (L.map kU++List.replicate d CQ)):=fun x=>aA.gp (by omega) h5
   have g3:∀ x,(h.push x).get h.next=some x:=fun x=>aA.aC _ _
   have Fq:=fun (K:V->aA->Prop) hK=>edel_at (K:=K) hG (c:=c) (d:=d) (g:=207) (k1:=h.next) (L:=L) (p:=fun x=>decide (x.e.rev<=rev)) (show c<(h.push (.cs [.i .i64 rev])).next by show c<h.next+1;omega) (g2 (.cs [.i .i64 rev])) hn (fun h' hZ e he K hK=>
    ecut_at hG (by rw [hZ.2 _ (Nat.lt_succ_self _) (by omega)];exact g3 _) (hK h' (.refl _ _))) hK
   rw [OT] at Fq
   refine jG (hG _ AF.f107 rfl) rfl ?_
   (refine iU @Fq @g1 ?_)
   intro h' d' hg' hZ
   have hnx:h.next+1<=h'.next:=hZ.1
   have p3:h'.get g=some (.cs [.ms (.g c) 4 0 L.length,.i .i64 64,.i .i64 base,.i .i64 last]):=by rw [hZ.2 g (by show g<h.next+1;omega) (fun e=>h2 e.symm)];exact g1 _
   have p4:h'.get h.next=some (.cs [.i .i64 rev]):=by rw [hZ.2 h.next (Nat.lt_succ_self _) (by omega)];exact g3 _
   have p5:∀ x,(h'.set g x).get g=some x:=fun x=>aA.aD p3
   have p6:∀ x,(h'.set g x).get h.next=some (.cs [.i .i64 rev]):=fun x=>aA.gs (by omega) p4
   ((conv=>whnf);repeat ((first|refine aZ.of (UY (z:=if last<rev then last else rev) rfl) ?_|refine aZ.of (Tt (z:=Ay base last rev) rfl) ?_|refine ye (p3) ?_|refine ye (p5 _) ?_|refine ye (p6 _) ?_|refine zz ?_)<;>(conv=>whnf)))
   have yY:aA.aI (fun n=>n=g\/r=some n) h h':=aA.aI.trans (b:=fun n=>n=g\/r=some n) (.push (.refl _ _) _) (hZ.mono fun n _ e=>.inr (by rw [Im,e]))
   exact hK _ ⟨(by show g<h'.next;omega),.inr ⟨c,d',Im,h2,(by show c<h'.next;omega),aA.aD (p5 _),aA.gs h2 (aA.gs h2 hg')⟩⟩ (aA.aI.set (b:=fun n=>n=g\/r=some n) (aA.aI.set (b:=fun n=>n=g\/r=some n) yY (.inl (.inl rfl)) _) (.inl (.inl rfl)) _)
end
open Go
theorem WX (L:List j1) (d:Nat) (x:j1) {n:Nat} (hn:n=L.length):(L.map kU++List.replicate (d+1) CQ).take (0+n)++[kU x]++(L.map kU++List.replicate (d+1) CQ).drop (0+n+1)=(L++[x]).map kU++List.replicate d CQ:=by
 subst hn
 have h1:(L.map kU).length=L.length:=List.length_map _
 rw [Nat.zero_add,List.take_append_of_le_length (by omega),List.take_of_length_le (by omega),List.drop_append,List.drop_of_length_le (by omega),h1,List.replicate_succ]
 simp
theorem WY (L:List j1) (x:j1) {n:Nat} (hn:n=L.length):List.drop 0 (List.take (0+n) (L.map kU++List.replicate 0 CQ))++[kU x]=(L++[x]).map kU++List.replicate 0 CQ:=by
 subst hn
 have h1:(L.map kU).length=L.length:=List.length_map _
 rw [Nat.zero_add,List.replicate_zero,List.append_nil,List.drop_zero,List.take_of_length_le (by omega)]
 simp
theorem Ow {A:List j1} {b c:Int} (h:b<=c):(A.filter fun x=>decide (b<x.e.rev)).filter (fun x=>decide (c<x.e.rev))=A.filter fun x=>decide (c<x.e.rev):=by
 rw [List.filter_filter]
 refine List.filter_congr fun x _=>?_
 by_cases k:c<x.e.rev
 · rw [decide_eq_true k,decide_eq_true (by omega)];rfl
 · rw [decide_eq_false k];rfl
theorem RH {A:List j1} {b:Int} (h:∀ x∈A,b<x.e.rev):(A.filter fun x=>decide (b<x.e.rev))=A:=
 List.filter_eq_self.2 fun x hx=>decide_eq_true (h x hx)
theorem Ox {A:List j1} {x:j1} (h:A[0]? =some x):(A.filter fun y=>decide (x.e.rev<y.e.rev)).length<A.length:=by
 cases A with
 |nil=>cases h
 |cons a r=>
  simp at h
  subst h
  rw [List.filter_cons_of_neg (by simp),List.length_cons]
  have:=List.length_filter_le (fun y:j1=>decide (a.e.rev<y.e.rev)) r
  omega
section
variable {P:Program} (hG:bN P AF.fns.get)
include hG
theorem lcop_ok (x:j1) (h:RD x.e):Pure P 106 [.agg (kU x)] (·=.agg (kU x)):=by
 have hc:=sQ hG x.e.val h.val
 refine aM (hG _ AF.f106 rfl) rfl ?_
 (refine cJ @hc ?_)
 exact aE rfl rfl
theorem ladd_at {h:aA} {g:Nat} {r:Option Nat} {L:List j1} {base last:Int} (hl:Cn h g r L base last) (hbd:∀ x∈L,base<x.e.rev/\x.e.rev<=last) (Sw:base<=last) (es:List j1) (dM:0<es.length) (dZ:∀ x∈es,RD x.e) {R:Int} (hR:∀ x∈es,x.e.rev=R) (hlR:last<R)
 (Sv:L.length<=1000) (MK:es.length<=1000) {K:V->aA->Prop}
 (hK:∀ h' r' pQ,Cn h' g r' ((L++es).filter fun x=>decide (pQ<x.e.rev)) pQ R->base<=pQ->pQ<=R->((L++es).filter fun x=>decide (pQ<x.e.rev)).length<=64->(∀ k,r'=some k->r=some k\/h.next<=k)->aA.aI (fun n=>n=g\/r=some n) h h'->K (.b true) h'):
 aB P 45 [.p (.g g) 0,.sl none 4 (es.map kU)] h K:=by
 have mN:(es.map kU).length=es.length:=List.length_map _
 have ON:=List.getElem?_eq_getElem dM
 have Im:=hR _ (List.getElem_mem dM)
 generalize es[0]=x0 at ON Im
 have RI:∃ X2,h.get g=some (.cs [X2,.i .i64 64,.i .i64 base,.i .i64 last]):=by
  obtain ⟨h1,⟨_,_,h2⟩|⟨c,d,_,_,_,h4,_⟩⟩:=hl
  · exact ⟨_,h2⟩
  · exact ⟨_,h4⟩
 obtain ⟨X2,HZ⟩:=RI
 refine aN (hG _ AF.f45 rfl) rfl ?_
 (refine O0 (show ¬((es.map kU).length:Int)=0 by omega) (show ¬x0.e.rev<=last by omega) @HZ @ON ?_)
 refine bV.by (fun q fr st=>∃ (i:Nat) (lo:aA),i<=es.length/\q=es.length - i/\Fr.le [(28,.i .i64 i),(27,.i .i64 (es.map kU).length),(1,.sl none 4 (es.map kU)),(0,.p (.g g) 0)] fr/\st=⟨h,lo⟩)
  es.length ⟨0,_,Nat.zero_le _,rfl,dK,rfl⟩ ?_
 rintro q fr st ⟨i,lo,hi,rfl,dO,rfl⟩
 refine ⟨_,dO,fun R1 CO=>?_⟩
 by_cases eB:i<es.length
 · have he:=List.getElem?_eq_getElem eB
   have Sx:=hR _ (List.getElem_mem eB)
   generalize es[i]=x at he Sx
   by_cases Cs:0<i
   · have YO:=List.getElem?_eq_getElem (show i - 1<es.length by omega)
     have hrp:=hR _ (List.getElem_mem (show i - 1<es.length by omega))
     generalize es[i - 1]=y at YO hrp
     ((conv=>whnf);repeat ((first|refine aH.dt (show (i:Int)<(es.map kU).length by omega) ?_|refine aH.dt (show (0:Int)<i by omega) ?_|refine aK.ix (by omega) (by omega) ?_|refine aH.df (show ¬x.e.rev<y.e.rev by omega) ?_|refine aQ.gS (by omega) (by omega) ?_|refine ye (aG (f:=kU) (j:=((i:Nat):Int).toNat) (by omega) he) ?_|refine ye (aG (f:=kU) (j:=((i:Int) - 1).toNat) (by omega) YO) ?_|refine zz ?_)<;>(conv=>whnf)))
     exact CO (es.length - (i+1)) _ _ (by omega) ⟨i+1,_,by omega,rfl,dK,rfl⟩
   · (refine iU (show (i:Int)<(es.map kU).length by omega) (show ¬(0:Int)<i by omega) ?_)
     exact CO (es.length - (i+1)) _ _ (by omega) ⟨i+1,_,by omega,rfl,dK,rfl⟩
 obtain rfl:i=es.length:=by omega
 (refine cJ (show ¬((es.length:Nat):Int)<(es.map kU).length by omega) ?_)
 refine bV.by (fun q fr st=>∃ (j:Nat) (hh lo:aA) (rj:Option Nat),j<=es.length/\q=es.length - j/\Cn hh g rj (L++es.take j) base last/\(∀ k,rj=some k->r=some k\/h.next<=k)/\aA.aI (fun n=>n=g\/r=some n) h hh/\
  Fr.le [(50,.i .i64 j),(49,.i .i64 (es.map kU).length),(48,.sl none 4 (es.map kU)),(1,.sl none 4 (es.map kU)),(0,.p (.g g) 0)] fr/\st=⟨hh,lo⟩)
  es.length ⟨0,h,_,r,Nat.zero_le _,rfl,by simpa using hl,fun k hk=>.inl hk,.refl _ _,dK,rfl⟩ ?_
 clear dO CO HZ
 rintro q fr st ⟨j,hh,lo,rj,hj,rfl,TU,MU,hk,dO,rfl⟩
 refine ⟨_,dO,fun R1 CO=>?_⟩
 have hnx:=hk.1
 by_cases Fv:j<es.length
 · have he:=List.getElem?_eq_getElem Fv
   have As:=dZ _ (List.getElem_mem Fv)
   generalize es[j]=x at he As
   have Oy:=lcop_ok hG x As
   have kQ:L++es.take (j+1)=L++es.take j++[x]:=by rw [List.take_add_one,he,List.append_assoc];rfl
   have B0:(L++es.take j).length<=2000:=by simp;omega
   have b2:∀ o o2,((lo.push o).set lo.next o2).get lo.next=some o2:=fun o o2=>aA.aD (aA.aC _ _)
   obtain ⟨l1,⟨l2,l3,l4⟩|⟨c,d,l2,l3,l4,l5,l6⟩⟩:=TU
   · have g1:∀ o,(hh.push o).get hh.next=some o:=fun o=>aA.aC _ o
     have p1:∀ o,(hh.push o).get g=some (.cs [.aV,.i .i64 64,.i .i64 base,.i .i64 last]):=fun o=>aA.gp (by omega) l4
     have p2:∀ o o',((hh.push o).push o').get g=some (.cs [.aV,.i .i64 64,.i .i64 base,.i .i64 last]):=fun o o'=>aA.gp (by show g≠hh.next+1;omega) (p1 o)
     ((conv=>whnf);repeat ((first|refine aH.dt (show (j:Int)<(es.map kU).length by omega) ?_|refine cA (Pure.go Oy rfl) ?_|refine aQ.gS (by omega) (by omega) ?_|refine ye (aG (f:=kU) (by omega) he) ?_|refine ye (b2 _ _) ?_|refine ye (aA.aC _ _) ?_|refine ye (l4) ?_|refine ye (p1 _) ?_|refine ye (p2 _ _) ?_|refine ye (g1 _) ?_|refine zz ?_)<;>(conv=>whnf)))
     refine CO (es.length - (j+1)) _ _ (by omega) ⟨j+1,_,_,some (hh.next+1),by omega,rfl,?_,fun k hZ=>by cases hZ;exact .inr (by omega),aA.aI.set (b:=fun n=>n=g\/r=some n) (.push (.push hk _) _) (.inl (.inl rfl)) _,dK,rfl⟩
     rw [kQ,l3]
     exact ⟨(by show g<hh.next+1+1;omega),.inr ⟨hh.next+1,0,rfl,by omega,Nat.lt_succ_self _,aA.aD (p2 _ _),aA.gs (by omega) (aA.aC _ _)⟩⟩
   · have Bf:=EA (L++es.take j) d
     have g1:∀ o,(hh.push o).get hh.next=some o:=fun o=>aA.aC _ o
     have p1:∀ o,(hh.push o).get g=some (.cs [.ms (.g c) 4 0 (L++es.take j).length,.i .i64 64,.i .i64 base,.i .i64 last]):=fun o=>aA.gp (by omega) l5
     have p2:∀ o,(hh.push o).get c=some (.arr 4 ((L++es.take j).map kU++List.replicate d CQ)):=fun o=>aA.gp (by omega) l6
     have O8:r=some c\/h.next<=c:=MU c l2
     have aaB:(c=g\/r=some c)\/h.next<=c:=by rcases O8 with e|e<;>simp [e]
     cases d with
     |zero=>
      have p3:∀ o o',(((hh.push o).remove c).push o').get g=some (.cs [.ms (.g c) 4 0 (L++es.take j).length,.i .i64 64,.i .i64 base,.i .i64 last]):=fun o o'=>aA.gp (by show g≠hh.next+1;omega) (aA.gr (Ne.symm l3) (p1 o))
      have dH:=WY (L++es.take j) x rfl
      rw [<-kQ] at dH
      ((conv=>whnf);repeat ((first|refine aH.dt (show (j:Int)<(es.map kU).length by omega) ?_|refine cA (Pure.go Oy rfl) ?_|refine aQ.gS (by omega) (by omega) ?_|refine aK.mk (by simp [bR] at B0 ⊢;omega) ?_|refine aK.mk (decide_eq_true (by rw [Bf];omega)) ?_|refine aH.df (by rw [Bf];show ¬0+(L++es.take j).length+1<=(L++es.take j).length+0;omega) ?_|refine ye (aG (f:=kU) (by omega) he) ?_|refine ye (b2 _ _) ?_|refine ye (aA.aC _ _) ?_|refine ye (l5) ?_|refine ye (p1 _) ?_|refine ye (p2 _) ?_|refine ye (p3 _ _) ?_|refine ye (g1 _) ?_|refine zz ?_)<;>(conv=>whnf)))
      refine CO (es.length - (j+1)) _ _ (by omega) ⟨j+1,_,_,some (hh.next+1),by omega,rfl,?_,fun k hZ=>by cases hZ;exact .inr (by omega),aA.aI.set (b:=fun n=>n=g\/r=some n) (.push (aA.aI.remove (b:=fun n=>n=g\/r=some n) (.push hk _) aaB) _) (.inl (.inl rfl)) _,dK,rfl⟩
      have Sr:(L++es.take (j+1)).length=(L++es.take j).length+1:=by rw [kQ];simp;omega
      refine ⟨(by show g<hh.next+1+1;omega),.inr ⟨hh.next+1,0,rfl,by omega,Nat.lt_succ_self _,?_,?_⟩⟩
      · rw [Sr];exact aA.aD (p3 _ _)
      · rw [<-dH];exact aA.gs (by omega) (aA.aC _ _)
     |succ d=>
      have p3:∀ o o',((hh.push o).set c o').get g=some (.cs [.ms (.g c) 4 0 (L++es.take j).length,.i .i64 64,.i .i64 base,.i .i64 last]):=fun o o'=>aA.gs (Ne.symm l3) (p1 o)
      have dH:=WX (L++es.take j) d x rfl
      rw [<-kQ] at dH
      ((conv=>whnf);repeat ((first|refine aH.dt (show (j:Int)<(es.map kU).length by omega) ?_|refine cA (Pure.go Oy rfl) ?_|refine aQ.gS (by omega) (by omega) ?_|refine aK.mk (by simp [bR] at B0 ⊢;omega) ?_|refine aK.mk (decide_eq_true (by rw [Bf];omega)) ?_|refine aH.dt (by rw [Bf];show 0+(L++es.take j).length+1<=(L++es.take j).length+(d+1);omega) ?_|refine ye (aG (f:=kU) (by omega) he) ?_|refine ye (b2 _ _) ?_|refine ye (aA.aC _ _) ?_|refine ye (l5) ?_|refine ye (p1 _) ?_|refine ye (p2 _) ?_|refine ye (p3 _ _) ?_|refine ye (g1 _) ?_|refine zz ?_)<;>(conv=>whnf)))
      refine CO (es.length - (j+1)) _ _ (by omega) ⟨j+1,_,_,some c,by omega,rfl,?_,fun k hZ=>by cases hZ;exact O8,aA.aI.set (b:=fun n=>n=g\/r=some n) (aA.aI.set (b:=fun n=>n=g\/r=some n) (.push hk _) aaB _) (.inl (.inl rfl)) _,dK,rfl⟩
      have Sr:(L++es.take (j+1)).length=(L++es.take j).length+1:=by rw [kQ];simp;omega
      refine ⟨(by show g<hh.next+1;omega),.inr ⟨c,d,rfl,l3,(by show c<hh.next+1;omega),?_,?_⟩⟩
      · rw [Sr];exact aA.aD (p3 _ _)
      · rw [<-dH];exact aA.gs l3 (aA.aD (p2 _))
 obtain rfl:j=es.length:=by omega
 rw [List.take_length] at TU
 have hz:=List.getElem?_eq_getElem (show es.length - 1<es.length by omega)
 have hzr:=hR _ (List.getElem_mem (show es.length - 1<es.length by omega))
 generalize es[es.length - 1]=z at hz hzr
 have aaC:∀ x∈L++es,base<x.e.rev/\x.e.rev<=R:=fun x hx=>by
  rcases List.mem_append.1 hx with hx|hx
  · have:=hbd x hx;omega
  · have:=hR x hx;omega
 have rW:∃ OP:aA,∃ X2,hh.get g=some (.cs [X2,.i .i64 64,.i .i64 base,.i .i64 last])/\OP=hh.set g (.cs [X2,.i .i64 64,.i .i64 base,.i .i64 R])/\Cn OP g rj (L++es) base R:=by
  obtain ⟨l1,⟨l2,l3,l4⟩|⟨c,d,l2,l3,l4,l5,l6⟩⟩:=TU
  · exact ⟨_,_,l4,rfl,l1,.inl ⟨l2,l3,aA.aD l4⟩⟩
  · exact ⟨_,_,l5,rfl,l1,.inr ⟨c,d,l2,l3,l4,aA.aD l5,aA.gs l3 l6⟩⟩
 obtain ⟨OP,X2,XH,aaD,rW⟩:=rW
 have qO:aA.aI (fun n=>n=g\/r=some n) h OP:=by rw [aaD];exact aA.aI.set (b:=fun n=>n=g\/r=some n) hk (.inl (.inl rfl)) _
 have US:(L++es).filter (fun x=>decide (base<x.e.rev))=L++es:=RH fun x hx=>(aaC x hx).1
 ((conv=>whnf);repeat ((first|refine aH.df (show ¬((es.length:Nat):Int)<(es.map kU).length by omega) ?_|refine aQ.gS (by omega) (by omega) ?_|refine aK.ix (by omega) (by omega) ?_|refine ye (XH) ?_|refine ye (aG (f:=kU) (j:=(((es.map kU).length:Nat) - 1:Int).toNat) (by omega) hz) ?_|refine zz ?_)<;>(conv=>whnf)))
 rw [hzr]
 subst aaD
 refine bV.by (fun q fr st=>∃ (h3 lo:aA) (b':Int),Cn h3 g rj ((L++es).filter fun x=>decide (b'<x.e.rev)) b' R/\base<=b'/\b'<=R/\q=((L++es).filter fun x=>decide (b'<x.e.rev)).length/\aA.aI (fun n=>n=g\/r=some n) h h3/\
  Fr.le [(0,.p (.g g) 0)] fr/\st=⟨h3,lo⟩)
  (L++es).length ⟨_,_,base,?_,Int.le_refl _,by omega,by rw [US],?_,dK,rfl⟩ ?_
 · rw [US];exact rW
 · exact qO
 clear rW qO XH dO CO
 rintro q fr st ⟨h3,lo,b',hl3,GI,EX,rfl,WZ,dO,rfl⟩
 refine ⟨_,dO,fun R1 CO=>?_⟩
 have vL:((L++es).filter fun x=>decide (b'<x.e.rev)).length<=(L++es).length:=List.length_filter_le _ _
 have Ar:(L++es).length<=2000:=by simp;omega
 have Ur:∀ x∈(L++es).filter (fun x=>decide (b'<x.e.rev)),b'<x.e.rev/\x.e.rev<=R:=fun x hx=>by
  obtain ⟨m1,m2⟩:=List.mem_filter.1 hx
  exact ⟨by simpa using m2,(aaC x m1).2⟩
 have aaF:=fun (c:Int) (hc:b'<=c)=>Ow (A:=L++es) hc
 have xY:=hK h3 rj b' hl3 GI EX
 generalize hF:((L++es).filter fun x=>decide (b'<x.e.rev))=F at*
 have afY:=hl3
 obtain ⟨l1,⟨l2,l3,l4⟩|⟨c,d,l2,l3,l4,l5,l6⟩⟩:=afY
 · (refine cJ @l4 ?_)
   exact xY (by rw [l3];decide) MU WZ
 · by_cases h64:F.length<=64
   · (refine iU (show ¬((F.length:Nat):Int)>64 by omega) @l5 ?_)
     exact xY h64 MU WZ
   · have hx:=List.getElem?_eq_getElem (show 0<F.length by omega)
     have hxm:=Ur _ (List.getElem_mem (show 0<F.length by omega))
     generalize F[0]=x at hx hxm
     have T3:=fun (K:V->aA->Prop) hK=>lcut_at (K:=K) hG hl3 (by omega) x.e.rev hK
     have hcb:Ay b' R x.e.rev=x.e.rev:=by unfold Ay;split<;>split at*<;>omega
     have cL:=Ox hx
     have hff:=aaF x.e.rev (by omega)
     rw [hcb,hff] at T3
     rw [hff] at cL
     ((conv=>whnf);repeat ((first|refine aH.dt (show ((F.length:Nat):Int)>64 by omega) ?_|refine aK.ix (by omega) (by omega) ?_|refine aK.mk (decide_eq_true (by rw [EA];omega)) ?_|refine cA (T3 _) ?_|refine ye (l5) ?_|refine ye (l6) ?_|refine ye (RF (d:=d) (j:=((0:Int)).toNat) rfl hx) ?_|refine zz ?_)<;>(conv=>whnf)))
     intro h4 hl4 hk4
     (refine zr ?_)
     exact CO _ _ _ cL ⟨h4,_,x.e.rev,hl4,by omega,by omega,rfl,WZ.comp hk4 (fun n hn e=>by
      rcases e with e|e
      · exact .inl e
      · rcases MU n e with e|e
        · exact .inr e
        · omega),dK,rfl⟩
end
open Go
structure ED where
 key:aU
 val:List Int
 gone:Bool
def lP (w:ED):List V:=[.s w.key,.sl none 1 (w.val.map gH),.b w.gone]
def yU (k:aU):Bool:=decide (1<=k.length)&&decide (k.length<=20)
def T4 (S:List aU) (w:ED):Bool:=yU w.key&&(!decide (w.key∈S)&&(!(w.gone&&decide (0<w.val.length))&&decide (w.val.length<=4000)))
def Fx:List aU->List ED->Bool
 |_,[]=>true
 |S,w::r=>T4 S w&&Fx (S++[w.key]) r
structure RJ (w:ED):Prop where
 key:w.key.length<=9223372036854775807
 val:w.val.length<=9223372036854775807
section
variable {P:Program} (hG:bN P AF.fns.get)
include hG
theorem gkey_ok {h:aA} (k:aU) (hk:k.length<=9223372036854775807) {K:V->aA->Prop} (hK:K (.b (yU k)) h):aB P 204 [.s k] h K:=by
 unfold yU at hK
 refine jG (hG _ AF.f204 rfl) rfl ?_
 by_cases c1:1<=k.length
 · rw [decide_eq_true c1,Bool.true_and] at hK
   by_cases c2:k.length<=20
   · rw [decide_eq_true c2] at hK
     (refine cJ (show ((k.length:Nat):Int)>=1 by omega) ?_)
     rw [decide_eq_true (show ((k.length:Nat):Int)<=20 by omega)]
     exact hK
   · rw [decide_eq_false c2] at hK
     (refine cJ (show ((k.length:Nat):Int)>=1 by omega) ?_)
     rw [decide_eq_false (show ¬((k.length:Nat):Int)<=20 by omega)]
     exact hK
 · rw [decide_eq_false c1,Bool.false_and] at hK
   (refine cJ (show ¬((k.length:Nat):Int)>=1 by omega) ?_)
   exact hK
end
open Go
def Xr (b:List Int):List UInt8:=b.map fun n=>UInt8.ofNat n.toNat
theorem ER:∀ b:List Int,bytesOf (b.map gH)=some (Xr b)
 |[]=>rfl
 |x::r=>by
  have h:=ER r
  show bytesOf ([V.i .u8 x]::r.map gH)=_
  simp only [bytesOf,h]
  rfl
section
variable {P:Program} (hG:bN P AF.fns.get)
include hG
theorem bytesS_at {h:aA} (b:List Int) {K:V->aA->Prop} (hK:K (.b true) h):aB P 150 [.sl none 1 (b.map gH),.sl none 1 (b.map gH)] h K:=by
 have VC:=ER b
 have ht:(Xr b==Xr b)=true:=by simp
 refine aN (hG _ AF.f150 rfl) rfl ?_
 (refine cJ @VC ?_)
 rw [ht]
 exact hK
theorem eqEn_at {h:aA} (e:dJ) {K:V->aA->Prop} (hK:K (.b true) h):aB P 71 [.agg (lN e),.agg (lN e)] h K:=by
 have hb:=fun K=>bytesS_at (K:=K) hG (h:=h) e.val
 refine aN (hG _ AF.f71 rfl) rfl ?_
 ((conv=>whnf);repeat ((first|refine cA (hb _) ?_|refine aH.tt (by simp;done) ?_|refine zz ?_)<;>(conv=>whnf)))
 exact hK
theorem eqEns_at {h:aA} {lv lw:V} {L:List dJ} (h1:RE lv L) (h2:RE lw L) (hn:L.length<=100000) {K:V->aA->Prop} (hK:K (.b true) h):aB P 22 [lv,lw] h K:=by
 by_cases hL:L=[]
 · subst hL
   refine jG (hG _ AF.f22 rfl) rfl ?_
   rcases h1 with ⟨rfl,_⟩|rfl<;>rcases h2 with ⟨rfl,_⟩|rfl
   all_goals
    ((conv=>whnf);repeat ((first|refine fQ.un rfl ?_|refine zz ?_)<;>(conv=>whnf)))
    exact hK
 · have e1:lv=.sl none 3 (L.map lN):=by rcases h1 with ⟨_,h⟩|h;exact absurd h hL;exact h
   have e2:lw=.sl none 3 (L.map lN):=by rcases h2 with ⟨_,h⟩|h;exact absurd h hL;exact h
   subst e1 e2
   have iO:(L.map lN).length=L.length:=List.length_map _
   refine jG (hG _ AF.f22 rfl) rfl ?_
   (refine zr ?_)
   refine fQ.by (fun q fr st=>∃ (i:Nat) (lo:aA),i<=L.length/\q=L.length - i/\Fr.le [(13,.i .i64 i),(12,.i .i64 (L.map lN).length),(1,.sl none 3 (L.map lN)),(0,.sl none 3 (L.map lN))] fr/\st=⟨h,lo⟩)
    L.length ⟨0,_,Nat.zero_le _,rfl,dK,rfl⟩ ?_
   rintro q fr st ⟨i,lo,hi,rfl,dO,rfl⟩
   refine ⟨_,dO,fun R hR=>?_⟩
   by_cases eB:i<L.length
   · have he:=List.getElem?_eq_getElem eB
     generalize L[i]=e at he
     have hb:=fun K=>eqEn_at (K:=K) hG (h:=h) e
     (refine XL @hb @he ?_)
     exact hR (L.length - (i+1)) _ _ (by omega) ⟨i+1,_,by omega,rfl,dK,rfl⟩
   · (refine zx0 ?_)
     exact hK
end
end Go.Eng
