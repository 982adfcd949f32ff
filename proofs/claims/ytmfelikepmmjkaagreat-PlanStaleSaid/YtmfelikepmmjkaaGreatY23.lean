/-
Library functions on rows: IndexFunc, ContainsFunc, Index, Contains, Equal, EqualFunc, Clone.
-/
import Derived.Test.YtmfelikepmmjkaaGreatY21
import Derived.Test.YtmfelikepmmjkaaGreatY08
import Derived.ProofKit
import Derived.OpenShut
import Derived.Deep.Slices
import Derived.Carry
import Derived.Test.YtmfelikepmmjkaaGreatY09
set_option linter.unusedVariables false
set_option linter.unusedSimpArgs false
set_option maxHeartbeats 1000000
namespace Go.Eng
open Go
def gB {α:Type} (p:α->Bool) (l:List α):Int:=
 match l.findIdx? p with
 |some j=>j
 |none=>-1
theorem cX {α:Type} {p:α->Bool} {l:List α} {i:Nat} {e:α} (he:l[i]? =some e) (hp:p e=true) (hb:∀ (j:Nat) (x:α),j<i->l[j]? =some x->p x=false):gB p l=i:=by
 have:l.findIdx? p=some i:=by
  rw [List.findIdx?_eq_some_iff_getElem]
  obtain ⟨h,rfl⟩:=List.getElem?_eq_some_iff.1 he
  exact ⟨h,hp,fun j hj=>by simpa using hb j _ hj (List.getElem?_eq_getElem (by omega))⟩
 rw [gB,this]
theorem dF {α:Type} {p:α->Bool} {l:List α} (hb:∀ (j:Nat) (x:α),l[j]? =some x->p x=false):gB p l=-1:=by
 have:l.findIdx? p=none:=by
  rw [List.findIdx?_eq_none_iff]
  intro x hx
  obtain ⟨j,hj⟩:=List.mem_iff_getElem?.1 hx
  exact hb j x hj
 rw [gB,this]
theorem jQ {α:Type} {p:α->Bool} {l:List α}:decide (gB p l>=0)=l.any p:=by
 unfold gB
 cases h:l.findIdx? p with
 |none=>
  rw [List.findIdx?_eq_none_iff] at h
  have:l.any p=false:=by rw [List.any_eq_false];intro x hx;simp [h x hx]
  rw [this]
  rfl
 |some j=>
  rw [List.findIdx?_eq_some_iff_getElem] at h
  obtain ⟨hj,hp,_⟩:=h
  have:l.any p=true:=List.any_eq_true.2 ⟨_,List.getElem_mem hj,hp⟩
  rw [this]
  exact decide_eq_true (Int.natCast_nonneg j)
def iN (sz:Nat) (n:Option Nat):aW:=⟨2,(.seq (.AK [⟨(some 4),.L6 (.c (.i .i64 0)),none,[4]⟩])
 (.seq (.seq (.AK [⟨(some 6),.mv (.t 0),none,[]⟩,
 ⟨(some 7),.E8 (.t 6),none,[6]⟩,
 ⟨(some 8),.mv (.c (.i .i64 0)),none,[]⟩])
 (.bL 0 (.loop (.seq (.AK [⟨(some 9),.bin .lss (.t 8) (.t 7),none,[]⟩])
 (.seq (.cond (.t 9) .skip
 (.exit 0))
 (.seq (.bL 1 (.seq (.AK [⟨(some 10),.mv (.t 8),none,[]⟩,
 ⟨(some 5),.L6 (.t 10),none,[10]⟩])
 (.seq (.AK [⟨(some 11),.mv (.t 1),none,[]⟩,
 ⟨(some 12),.mv (.t 0),none,[]⟩,
 ⟨(some 13),.mv (.t 5),none,[]⟩,
 ⟨(some 14),.E7 sz (.t 12) (.t 13),none,[12,13]⟩,
 ⟨(some 15),.load n (.t 14),none,[14]⟩,
 ⟨(some 16),.wY (.t 11) [(.t 15)],none,[11,15]⟩])
 (.cond (.t 16) (.seq (.AK [⟨(some 17),.mv (.t 5),none,[5]⟩,
 ⟨(some 4),.L6 (.t 17),none,[17]⟩])
 .ret)
 .skip))))
 (.AK [⟨(some 18),.bin .add (.t 8) (.c (.i .i64 1)),none,[8]⟩,
 ⟨(some 8),.mv (.t 18),none,[18]⟩])))))))
 (.seq (.AK [⟨(some 4),.L6 (.c (.i .i64 (-1))),none,[]⟩])
 .ret))),[.t 4]⟩
theorem NU {P:Program} {f:Nat} (hk:gE P f (iN 3 (some 3))=true) {l:List cM} {g:Nat} {k:Nat} {h:aA} {p:cM->Bool} (hl:l.length<=9223372036854775807)
 (hg:∀ e∈l,∀ K:V->aA->Prop,K (.b (p e)) h->aB P g (.agg (bD e)::[.p (.g k) 0]) h K) {K:V->aA->Prop} (hK:K (.i .i64 (gB p l)) h):aB P f [.sl none 3 (l.map bD),.fn g [] [.p (.g k) 0]] h K:=by
 have iO:(l.map bD).length=l.length:=List.length_map _
 refine aN hk rfl ?_
 ((conv=>whnf);repeat ((first|refine aH.ff rfl ?_|refine aH.tt rfl ?_|refine aZ.of rfl ?_|refine aK.mk rfl ?_|refine aP.mk rfl ?_|refine cD.of rfl ?_)<;>(conv=>whnf)))
 refine bV.by (fun q fr st=>∃ i:Nat,i<=l.length/\q=l.length - i/\(∀ (j:Nat) (e:cM),j<i->l[j]? =some e->p e=false)/\Fr.le [(8,.i .i64 i),(7,.i .i64 (l.map bD).length),(1,.fn g [] [.p (.g k) 0]),(0,.sl none 3 (l.map bD))] fr/\st=dG h)
  l.length ⟨0,Nat.zero_le _,rfl,fun j e hj=>absurd hj (Nat.not_lt_zero _),dK,rfl⟩ ?_
 rintro q fr st ⟨i,hi,rfl,dZ,hle,rfl⟩
 refine ⟨_,hle,fun R hR=>?_⟩
 ((conv=>whnf);repeat ((first|refine aH.ff rfl ?_|refine aH.tt rfl ?_|refine aZ.of rfl ?_|refine aK.mk rfl ?_|refine aP.mk rfl ?_|refine cD.of rfl ?_)<;>(conv=>whnf)))
 refine aH.ds (fun cL=>?_) (fun fC=>?_)
 · have cZ:i<l.length:=by omega
   have he:=List.getElem?_eq_getElem cZ
   have hm:=List.getElem_mem cZ
   generalize l[i]=e at he hm
   ((conv=>whnf);repeat ((first|refine aK.ix (by omega) (by omega) ?_|refine aH.ff rfl ?_|refine aH.tt rfl ?_|refine aZ.of rfl ?_|refine aK.mk rfl ?_|refine aP.mk rfl ?_|refine cD.of (aG (by simp) he) ?_|refine cD.of rfl ?_)<;>(conv=>whnf)))
   refine cY.mk (hg e hm _ ?_)
   ((conv=>whnf);repeat ((first|refine aH.ff rfl ?_|refine aH.tt rfl ?_|refine aZ.of rfl ?_|refine aK.mk rfl ?_|refine aP.mk rfl ?_|refine cD.of rfl ?_)<;>(conv=>whnf)))
   refine aH.mk (fun hp=>?_) (fun hp=>?_)
   · ((conv=>whnf);repeat ((first|refine aH.ff rfl ?_|refine aH.tt rfl ?_|refine aZ.of rfl ?_|refine aK.mk rfl ?_|refine aP.mk rfl ?_|refine cD.of rfl ?_)<;>(conv=>whnf)))
     rw [cX he hp dZ] at hK
     exact hK
   · ((conv=>whnf);repeat ((first|refine aQ.gS (by omega) (by omega) ?_|refine aH.ff rfl ?_|refine aH.tt rfl ?_|refine aZ.of rfl ?_|refine aK.mk rfl ?_|refine aP.mk rfl ?_|refine cD.of rfl ?_)<;>(conv=>whnf)))
     refine hR (l.length - (i+1)) _ _ (by omega) ⟨i+1,by omega,rfl,fun j x hj hx=>?_,dK,rfl⟩
     by_cases xF:j<i
     · exact dZ j x xF hx
     · obtain rfl:j=i:=by omega
       rw [he] at hx;cases hx;exact hp
 · ((conv=>whnf);repeat ((first|refine aH.ff rfl ?_|refine aH.tt rfl ?_|refine aZ.of rfl ?_|refine aK.mk rfl ?_|refine aP.mk rfl ?_|refine cD.of rfl ?_)<;>(conv=>whnf)))
   rw [dF fun j x hx=>dZ j x (by have:=(List.getElem?_eq_some_iff.1 hx).1;omega) hx] at hK
   exact hK
theorem QR {P:Program} {f:Nat} (hk:gE P f (iN 3 (some 3))=true) {l:List j8} {g:Nat} {k:Nat} {h:aA} {p:j8->Bool} (hl:l.length<=9223372036854775807)
 (hg:∀ e∈l,∀ K:V->aA->Prop,K (.b (p e)) h->aB P g (.agg (eO e)::[.p (.g k) 0]) h K) {K:V->aA->Prop} (hK:K (.i .i64 (gB p l)) h):aB P f [.sl none 3 (l.map eO),.fn g [] [.p (.g k) 0]] h K:=by
 have iO:(l.map eO).length=l.length:=List.length_map _
 refine aN hk rfl ?_
 ((conv=>whnf);repeat ((first|refine aH.ff rfl ?_|refine aH.tt rfl ?_|refine aZ.of rfl ?_|refine aK.mk rfl ?_|refine aP.mk rfl ?_|refine cD.of rfl ?_)<;>(conv=>whnf)))
 refine bV.by (fun q fr st=>∃ i:Nat,i<=l.length/\q=l.length - i/\(∀ (j:Nat) (e:j8),j<i->l[j]? =some e->p e=false)/\Fr.le [(8,.i .i64 i),(7,.i .i64 (l.map eO).length),(1,.fn g [] [.p (.g k) 0]),(0,.sl none 3 (l.map eO))] fr/\st=dG h)
  l.length ⟨0,Nat.zero_le _,rfl,fun j e hj=>absurd hj (Nat.not_lt_zero _),dK,rfl⟩ ?_
 rintro q fr st ⟨i,hi,rfl,dZ,hle,rfl⟩
 refine ⟨_,hle,fun R hR=>?_⟩
 ((conv=>whnf);repeat ((first|refine aH.ff rfl ?_|refine aH.tt rfl ?_|refine aZ.of rfl ?_|refine aK.mk rfl ?_|refine aP.mk rfl ?_|refine cD.of rfl ?_)<;>(conv=>whnf)))
 refine aH.ds (fun cL=>?_) (fun fC=>?_)
 · have cZ:i<l.length:=by omega
   have he:=List.getElem?_eq_getElem cZ
   have hm:=List.getElem_mem cZ
   generalize l[i]=e at he hm
   ((conv=>whnf);repeat ((first|refine aK.ix (by omega) (by omega) ?_|refine aH.ff rfl ?_|refine aH.tt rfl ?_|refine aZ.of rfl ?_|refine aK.mk rfl ?_|refine aP.mk rfl ?_|refine cD.of (aG (by simp) he) ?_|refine cD.of rfl ?_)<;>(conv=>whnf)))
   refine cY.mk (hg e hm _ ?_)
   ((conv=>whnf);repeat ((first|refine aH.ff rfl ?_|refine aH.tt rfl ?_|refine aZ.of rfl ?_|refine aK.mk rfl ?_|refine aP.mk rfl ?_|refine cD.of rfl ?_)<;>(conv=>whnf)))
   refine aH.mk (fun hp=>?_) (fun hp=>?_)
   · ((conv=>whnf);repeat ((first|refine aH.ff rfl ?_|refine aH.tt rfl ?_|refine aZ.of rfl ?_|refine aK.mk rfl ?_|refine aP.mk rfl ?_|refine cD.of rfl ?_)<;>(conv=>whnf)))
     rw [cX he hp dZ] at hK
     exact hK
   · ((conv=>whnf);repeat ((first|refine aQ.gS (by omega) (by omega) ?_|refine aH.ff rfl ?_|refine aH.tt rfl ?_|refine aZ.of rfl ?_|refine aK.mk rfl ?_|refine aP.mk rfl ?_|refine cD.of rfl ?_)<;>(conv=>whnf)))
     refine hR (l.length - (i+1)) _ _ (by omega) ⟨i+1,by omega,rfl,fun j x hj hx=>?_,dK,rfl⟩
     by_cases xF:j<i
     · exact dZ j x xF hx
     · obtain rfl:j=i:=by omega
       rw [he] at hx;cases hx;exact hp
 · ((conv=>whnf);repeat ((first|refine aH.ff rfl ?_|refine aH.tt rfl ?_|refine aZ.of rfl ?_|refine aK.mk rfl ?_|refine aP.mk rfl ?_|refine cD.of rfl ?_)<;>(conv=>whnf)))
   rw [dF fun j x hx=>dZ j x (by have:=(List.getElem?_eq_some_iff.1 hx).1;omega) hx] at hK
   exact hK
theorem QS {P:Program} {f:Nat} (hk:gE P f (iN 1 none)=true) {l:List Int} {g:Nat} {k:Nat} {h:aA} {p:Int->Bool} (hl:l.length<=9223372036854775807)
 (hg:∀ e∈l,∀ K:V->aA->Prop,K (.b (p e)) h->aB P g (.i .i64 e::[.p (.g k) 0]) h K) {K:V->aA->Prop} (hK:K (.i .i64 (gB p l)) h):aB P f [.sl none 1 (l.map fV),.fn g [] [.p (.g k) 0]] h K:=by
 have iO:(l.map fV).length=l.length:=List.length_map _
 refine aN hk rfl ?_
 ((conv=>whnf);repeat ((first|refine aH.ff rfl ?_|refine aH.tt rfl ?_|refine aZ.of rfl ?_|refine aK.mk rfl ?_|refine aP.mk rfl ?_|refine cD.of rfl ?_)<;>(conv=>whnf)))
 refine bV.by (fun q fr st=>∃ i:Nat,i<=l.length/\q=l.length - i/\(∀ (j:Nat) (e:Int),j<i->l[j]? =some e->p e=false)/\Fr.le [(8,.i .i64 i),(7,.i .i64 (l.map fV).length),(1,.fn g [] [.p (.g k) 0]),(0,.sl none 1 (l.map fV))] fr/\st=dG h)
  l.length ⟨0,Nat.zero_le _,rfl,fun j e hj=>absurd hj (Nat.not_lt_zero _),dK,rfl⟩ ?_
 rintro q fr st ⟨i,hi,rfl,dZ,hle,rfl⟩
 refine ⟨_,hle,fun R hR=>?_⟩
 ((conv=>whnf);repeat ((first|refine aH.ff rfl ?_|refine aH.tt rfl ?_|refine aZ.of rfl ?_|refine aK.mk rfl ?_|refine aP.mk rfl ?_|refine cD.of rfl ?_)<;>(conv=>whnf)))
 refine aH.ds (fun cL=>?_) (fun fC=>?_)
 · have cZ:i<l.length:=by omega
   have he:=List.getElem?_eq_getElem cZ
   have hm:=List.getElem_mem cZ
   generalize l[i]=e at he hm
   ((conv=>whnf);repeat ((first|refine aK.ix (by omega) (by omega) ?_|refine aH.ff rfl ?_|refine aH.tt rfl ?_|refine aZ.of rfl ?_|refine aK.mk rfl ?_|refine aP.mk rfl ?_|refine cD.of (aG (by simp) he) ?_|refine cD.of rfl ?_)<;>(conv=>whnf)))
   refine cY.mk (hg e hm _ ?_)
   ((conv=>whnf);repeat ((first|refine aH.ff rfl ?_|refine aH.tt rfl ?_|refine aZ.of rfl ?_|refine aK.mk rfl ?_|refine aP.mk rfl ?_|refine cD.of rfl ?_)<;>(conv=>whnf)))
   refine aH.mk (fun hp=>?_) (fun hp=>?_)
   · ((conv=>whnf);repeat ((first|refine aH.ff rfl ?_|refine aH.tt rfl ?_|refine aZ.of rfl ?_|refine aK.mk rfl ?_|refine aP.mk rfl ?_|refine cD.of rfl ?_)<;>(conv=>whnf)))
     rw [cX he hp dZ] at hK
     exact hK
   · ((conv=>whnf);repeat ((first|refine aQ.gS (by omega) (by omega) ?_|refine aH.ff rfl ?_|refine aH.tt rfl ?_|refine aZ.of rfl ?_|refine aK.mk rfl ?_|refine aP.mk rfl ?_|refine cD.of rfl ?_)<;>(conv=>whnf)))
     refine hR (l.length - (i+1)) _ _ (by omega) ⟨i+1,by omega,rfl,fun j x hj hx=>?_,dK,rfl⟩
     by_cases xF:j<i
     · exact dZ j x xF hx
     · obtain rfl:j=i:=by omega
       rw [he] at hx;cases hx;exact hp
 · ((conv=>whnf);repeat ((first|refine aH.ff rfl ?_|refine aH.tt rfl ?_|refine aZ.of rfl ?_|refine aK.mk rfl ?_|refine aP.mk rfl ?_|refine cD.of rfl ?_)<;>(conv=>whnf)))
   rw [dF fun j x hx=>dZ j x (by have:=(List.getElem?_eq_some_iff.1 hx).1;omega) hx] at hK
   exact hK
open Go
inductive Sh where
 |b
 |i (k:IntKind)
 |s
 |sl (row:List Sh)
mutual
def Sh.is:Sh->V->Prop
 |.b,v=>∃ x,v=.b x
 |.i k,v=>∃ n,v=.i k n/\k.min<=n/\n<=k.max
 |.s,v=>∃ l,v=.s l/\l.length<=9223372036854775807
 |.sl row,v=>∃ es,v=.sl none row.length es/\es.length<=9223372036854775807/\∀ e∈es,Sh.nT row e
def Sh.nT:List Sh->List V->Prop
 |[],[]=>True
 |a::r,v::q=>a.is v/\Sh.nT r q
 |_,_=>False
end
def uW (P:Program) (rec:TypeId->Option (List Sh)):List Field->List Sh->Option (List Sh)
 |[],acc=>some acc
 |f::r,acc=>match rec f.type with
  |some s=>if f.offset=acc.length/\s.length=P.cellsOf f.type then uW P rec r (acc++s) else none
  |none=>none
def CL (r:List Sh):Nat->List Sh
 |0=>[]
 |n+1=>r++CL r n
def Ao (P:Program):Nat->TypeId->Option (List Sh)
 |0,_=>none
 |m+1,t=>match P.underlying t with
  |some .bool=>some [.b]
  |some (.int k)=>some [.i k]
  |some .string=>some [.s]
  |some (.slice e)=>match Ao P m e with
   |some r=>if r.length=P.cellsOf e/\0<r.length then some [.sl r] else none
   |none=>none
  |some (.struct fs)=>match uW P (Ao P m) fs.toList [] with
   |some r=>if r.length=P.cellsOf t then some r else none
   |none=>none
  |some (.array n e)=>match Ao P m e with
   |some r=>if r.length=P.cellsOf e/\n*r.length=P.cellsOf t then some (CL r n) else none
   |none=>none
  |_=>none
theorem yQ:∀ {r:List Sh} {q:List V},Sh.nT r q->q.length=r.length
 |[],[],_=>rfl
 |[],_::_,h=>by simp [Sh.nT] at h
 |_::_,[],h=>by simp [Sh.nT] at h
 |_::r,_::q,h=>by simp only [Sh.nT] at h;simp [yQ h.2]
theorem yR:∀ {r:List Sh} {q:List V} {r':List Sh} {q':List V},Sh.nT r q->Sh.nT r' q'->Sh.nT (r++r') (q++q')
 |[],[],_,_,_,h=>h
 |[],_::_,_,_,h,_=>by simp [Sh.nT] at h
 |_::_,[],_,_,h,_=>by simp [Sh.nT] at h
 |_::r,_::q,_,_,h,h'=>by simp only [Sh.nT,List.cons_append] at h ⊢;exact ⟨h.1,yR h.2 h'⟩
def Fs (I:zA) (row:List V) (cs:List Value):Prop:=row.length=cs.length/\∀ (j:Nat) (v:V) (x:Value),row[j]? =some v->cs[j]? =some x->eT I v x
theorem Fs.append {I:zA} {r r':List V} {c c':List Value} (h:Fs I r c) (h':Fs I r' c'):Fs I (r++r') (c++c'):=by
 refine ⟨by simp [h.1,h'.1],fun j v x hj hx=>?_⟩
 rw [List.getElem?_append] at hj hx
 rw [<-h.1] at hx
 split at hj
 · rename_i cL
   rw [if_pos cL] at hx
   exact h.2 j v x hj hx
 · rename_i cL
   rw [if_neg cL] at hx
   exact h'.2 _ v x hj hx
theorem Fs.one {I:zA} {v:V} {x:Value} (h:eT I v x):Fs I [v] [x]:=⟨rfl,fun j v' x' hj hx=>by
 cases j with
 |zero=>simp at hj hx;subst hj;subst hx;exact h
 |succ j=>simp at hj⟩
theorem Re {k:IntKind} {n:Int} (h:(Lit.int k n).wf=true):k.min<=n/\n<=k.max:=by
 simpa [Lit.wf,IntKind.has] using h
section
variable {H:Type} {enc:TypeId×Value->H} {P:Program} {W:World}
def HH (P:Program) (W:World) (enc:TypeId×Value->H) (fuel m:Nat):Prop:=∀ (t:TypeId) (cs:List Value) (x:DataW H×List MemPlace) (r:List Sh),
 DataW.trod enc P W 0 (fun _=>true) true fuel t cs=some x->Ao P m t=some r->∃ row,Sh.nT r row/\Fs (bI W) row cs
theorem Ea {m n:Nat} (ih:HH P W enc n m) {cs:List Value}:∀ (fs:List Field) (acc r:List Sh) (row:List V) ,uW P (Ao P m) fs acc=some r->Sh.nT acc row->Fs (bI W) row (cs.take acc.length)->acc.length<=cs.length->
 (∀ f∈fs,∃ x,DataW.trod enc P W 0 (fun _=>true) true n f.type ((cs.drop f.offset).take (P.cellsOf f.type))=some x)->r.length=cs.length->∃ VG,Sh.nT r VG/\Fs (bI W) VG cs
 |[],acc,r,row,h,h1,h2,h3,h4,h5=>by
  simp only [uW,Option.some.injEq] at h
  subst h
  rw [h5,List.take_length] at h2
  exact ⟨row,h1,h2⟩
 |f::fs,acc,r,row,h,h1,h2,h3,h4,h5=>by
  simp only [uW] at h
  split at h
  case h_2=>cases h
  rename_i s hs
  split at h
  case isFalse=>cases h
  rename_i hc
  obtain ⟨x,hx⟩:=h4 f (by simp)
  obtain ⟨TC,g1,g2⟩:=ih _ _ _ _ hx hs
  have hl:TC.length=s.length:=yQ g1
  have rW:=g2.1
  simp only [List.length_take,List.length_drop] at rW
  have e:cs.take (acc++s).length=cs.take acc.length++(cs.drop f.offset).take (P.cellsOf f.type):=by
   rw [List.length_append,List.take_add,hc.1,hc.2]
  refine Ea ih fs (acc++s) r (row++TC) h (yR h1 g1) ?_ ?_ (fun f hf=>h4 f (by simp [hf])) h5
  · rw [e];exact h2.append g2
  · rw [List.length_append];omega
theorem F8 {m n:Nat} {e:TypeId} {r:List Sh} (ih:HH P W enc n m) (he:Ao P m e=some r) (hr:r.length=P.cellsOf e):∀ (k:Nat) (cs:List Value),cs.length=k*r.length->
 (∀ i,i<k->∃ x,DataW.trod enc P W 0 (fun _=>true) true n e ((cs.drop (i*P.cellsOf e)).take (P.cellsOf e))=some x)->∃ row,Sh.nT (CL r k) row/\Fs (bI W) row cs
 |0,cs,h1,_=>by
  have:cs=[]:=by simpa using h1
  subst this
  exact ⟨[],by simp [CL,Sh.nT],rfl,fun j v x hj=>by simp at hj⟩
 |k+1,cs,h1,h2=>by
  obtain ⟨x,hx⟩:=h2 0 (by omega)
  obtain ⟨aeV,a1,a2⟩:=ih _ _ _ _ hx he
  obtain ⟨TC,b1,b2⟩:=F8 ih he hr k (cs.drop r.length) (by rw [List.length_drop,h1,Nat.add_mul];omega) (fun i hi=>by
   obtain ⟨y,hy⟩:=h2 (i+1) (by omega)
   refine ⟨y,?_⟩
   rw [List.drop_drop,hr,show P.cellsOf e+i*P.cellsOf e=(i+1)*P.cellsOf e by rw [Nat.add_mul];omega]
   exact hy)
  refine ⟨aeV++TC,yR a1 b1,?_⟩
  have:=a2.append b2
  rw [Nat.zero_mul,List.drop_zero,<-hr,List.take_append_drop] at this
  exact this
theorem uX:∀ (fuel m:Nat),HH P W enc fuel m
 |0,_,t,cs,x,r,h,_=>by simp [DataW.trod] at h
 |_+1,0,t,cs,x,r,_,h=>by simp [Ao] at h
 |n+1,m+1,t,cs,x,r,h,hs=>by
  simp only [Ao] at hs
  split at hs
  · rename_i ht
    cases hs
    obtain ⟨b,rfl,_⟩:=DataW.trod_bool ht h
    exact ⟨[.b b],by simp [Sh.nT,Sh.is],.one (.b b)⟩
  · rename_i k ht
    cases hs
    obtain ⟨q,rfl,_,hw⟩:=DataW.trod_int ht h
    exact ⟨[.i k q],by simp [Sh.nT,Sh.is,Re hw],.one (.i k q)⟩
  · rename_i ht
    cases hs
    obtain ⟨s,rfl,_,hw⟩:=DataW.trod_string ht h
    refine ⟨[.s s.data.toList],?_,.one (.s s.data.toList)⟩
    simp only [Sh.nT,Sh.is,and_true]
    refine ⟨_,rfl,?_⟩
    have:s.size<=2 ^ 63 - 1:=hw
    have e:s.data.toList.length=s.size:=by simp
    omega
  · rename_i e ht
    split at hs
    case h_2=>cases hs
    rename_i r' Cu
    split at hs
    case isFalse=>cases hs
    rename_i kD
    cases hs
    rcases Go.Deep.open_slice ht h with ⟨rfl,_⟩|⟨a,len,cap,q,n',D,Pl,rfl,_,OV,Wx,hq,_,mN⟩
    · exact ⟨[.sl none r'.length []],by simp [Sh.nT,Sh.is],.one (.mS _)⟩
    · obtain ⟨kD,GR⟩:=kD
      have YH:q=cap:=by simpa using hq
      subst YH
      have hm:q<=2 ^ 63 - 1:=Wx
      obtain ⟨bL,off,spot⟩:=a
      by_cases hq0:q=0
      · subst hq0
        obtain rfl:len=0:=by omega
        exact ⟨[.sl none r'.length []],by simp [Sh.nT,Sh.is],.one (.Cr _ _)⟩
      · have ZG:spot=none:=by
         obtain ⟨Ns,hc,_⟩:=mN 0 (by omega)
         obtain ⟨_,hl,nK⟩:=World.cells?_some hc
         have:=nK 0 (by omega)
         rw [Nat.zero_mul,List.getElem?_eq_getElem (by omega)] at this
         simp only [Addr.add,if_true,World.cell?] at this
         split at this
         · split at this
           · cases this
           · rename_i hs;simpa using hs
         · cases this
        subst ZG
        obtain ⟨f,hf⟩:=Go.Deep.choose_lt (α:=List V) (n:=len) (p:=fun i row=>Sh.nT r' row/\∀ (j:Nat) (v:V),row[j]? =some v->∃ y,bI W bL (off+(i*r'.length+j))=some y/\eT (bI W) v y) (fun i hi=>by
         obtain ⟨Ns,hc,ht'⟩:=mN i (by omega)
         obtain ⟨row,g1,g2⟩:=uX n' m _ _ _ _ ht' Cu
         refine ⟨row,g1,fun j v hj=>?_⟩
         obtain ⟨_,hl,nK⟩:=World.cells?_some hc
         have GS:j<Ns.length:=by
          have:=(List.getElem?_eq_some_iff.1 hj).1
          rw [g2.1] at this;exact this
         have h1:=nK j (by omega)
         rw [List.getElem?_eq_getElem GS,Addr.add_lit,Addr.add_lit,kW,<-kD] at h1
         exact ⟨Ns[j],by rw [<-Nat.add_assoc];exact h1,g2.2 j v _ hj (List.getElem?_eq_getElem GS)⟩)
        have hlen:((List.range len).map f).length=len:=by simp
        have ZH:∀ e∈(List.range len).map f,Sh.nT r' e:=by
         intro e he
         obtain ⟨i,hi,rfl⟩:=List.mem_map.1 he
         exact (hf i (by simpa using hi)).1
        have Wy:∀ e∈(List.range len).map f,e.length=r'.length:=fun e he=>yQ (ZH e he)
        have key:∀ J d,((List.range len).map f).flatten[J]? =some d->∃ y,bI W bL (off+J)=some y/\eT (bI W) d y:=by
         intro J d hJ
         have hJl:J<len*r'.length:=by
          have:=(List.getElem?_eq_some_iff.1 hJ).1
          rwa [cU Wy,hlen] at this
         have hi:J/r'.length<len:=Nat.div_lt_of_lt_mul (by rwa [Nat.mul_comm] at hJl)
         have hj:J%r'.length<r'.length:=Nat.mod_lt _ GR
         have e1:J/r'.length*r'.length+J%r'.length=J:=by rw [Nat.mul_comm];exact Nat.div_add_mod _ _
         have h2:=oT Wy (ix:=J/r'.length) (j:=J%r'.length) (e:=f (J/r'.length)) (by simp [hi]) hj
         rw [e1,hJ] at h2
         have:=(hf _ hi).2 _ _ h2.symm
         rwa [e1] at this
        refine ⟨[.sl none r'.length ((List.range len).map f)],?_,.one ?_⟩
        · simp only [Sh.nT,Sh.is,and_true]
          exact ⟨_,rfl,by rw [hlen];omega,ZH⟩
        · have:=eT.sl (I:=bI W) r'.length ((List.range len).map f) bL off q (fun J=>(bI W bL (off+J)).getD default) (by rw [hlen];exact OV) Wy (fun J d hJ=>by
           obtain ⟨y,hy,_⟩:=key J d hJ
           rw [hy];rfl) (fun J d hJ=>by
           obtain ⟨y,hy,hr⟩:=key J d hJ
           rw [hy];exact hr)
          rw [hlen] at this
          exact this
  · rename_i fs ht
    split at hs
    case h_2=>cases hs
    rename_i r' Cu
    split at hs
    case isFalse=>cases hs
    rename_i kD
    cases hs
    obtain ⟨xs,n',hn,_,hl,KE,hf⟩:=DataW.trod_struct ht h
    have hn:n=n':=by omega
    subst hn
    refine Ea (uX n m) fs.toList [] _ [] Cu trivial ⟨by simp,fun j v x hj=>by simp at hj⟩ (Nat.zero_le _) (fun f Ur=>?_) (by rw [kD,hl])
    obtain ⟨i,hi⟩:=List.getElem?_of_mem Ur
    have cZ:fs[i]? =some f:=by simpa using hi
    have cL:i<xs.length:=by
     rw [KE]
     have:=(Array.getElem?_eq_some_iff.1 cZ).1
     exact this
    exact ⟨xs[i],by rw [hf i f cZ,List.getElem?_eq_getElem cL]⟩
  · rename_i k e ht
    split at hs
    case h_2=>cases hs
    rename_i r' Cu
    split at hs
    case isFalse=>cases hs
    rename_i kD
    cases hs
    obtain ⟨xs,n',hn,_,hl,KE,hf⟩:=DataW.trod_array ht h
    have hn:n=n':=by omega
    subst hn
    refine F8 (uX n m) Cu kD.1 k cs (by rw [hl,kD.2]) fun i hi=>?_
    exact ⟨xs[i]'(by omega),by rw [hf i hi,List.getElem?_eq_getElem (by omega)]⟩
  · cases hs
end
open Go Go.ChangeShapes Go.WideShapes Go.ChangeAt Go.RowKit
def Eb (I:zA):Env:=⟨I,fun _=>⟨0,0,0⟩,0,0⟩
theorem LA {P:Program} {f:Nat} {args:List V} {vs:Array Value} {I:zA} (h:aB P f args gZ (fun r _=>r=.b true)) (W:World) (hI:∀ b o x,I b o=some x->bI W b o=some x) (hv:eI (Eb I) args vs):
 Calls P f vs W fun e w'=>e=.returned (.bool true)/\Below W.heap.size W w':=by
 have hs:b9 (Eb I) (dG gZ) W:=⟨rfl,rfl,fun k hk=>absurd hk cB,hI,fun k o hk=>absurd ⟨o,hk⟩ cB,fun k k' hk=>absurd hk cB,fun k hk=>absurd hk cB⟩
 refine (h.2 (Eb I) W vs rfl hs hv).mono ?_
 rintro e w' ⟨v,x,h',E',rfl,rfl,hn,yX,he,hr⟩
 have hx:x=.bool true:=by
  cases hr with
  |deep hd=>cases hd;rfl
 subst hx
 exact ⟨rfl,he.os,he.tape,he.out,he.size,fun k hk=>he.same k hk fun k0 Lh=>absurd Lh cB⟩
abbrev pJ:=Bool×List Sh
def Rf (P:Program) (t:TypeId):Option pJ:=
 match P.underlying t with
 |some (.struct _)=>(Ao P 40 t).map fun r=>(true,r)
 |some (.array _ _)=>(Ao P 40 t).map fun r=>(true,r)
 |_=>(Ao P 40 t).map fun r=>(false,r)
def Ec (P:Program):List TypeId->Option (List pJ)
 |[]=>some []
 |t::r=>match Rf P t,Ec P r with
  |some a,some b=>some (a::b)
  |_,_=>none
def pJ.Is:pJ->V->Prop
 |(true,r),v=>∃ row,v=.agg row/\Sh.nT r row
 |(false,r),v=>Sh.nT r [v]
def Bg:List pJ->List V->Prop
 |[],[]=>True
 |a::r,v::q=>a.Is v/\Bg r q
 |_,_=>False
theorem eT.aeW {I:zA} {v:V} {x:Value} (h:eT I v x):x.oneCell'=true:=by cases h<;>rfl
section
variable {H:Type} {enc:TypeId×Value->H} {P:Program} {W:World}
theorem Wz {t:TypeId} {v:Value} {d:DataW H} {p:List MemPlace} {base:Nat} (h:DataW.Trod enc P W 0 (fun _=>true) true t v d p) (dZ:Value.okWide P W .any base t v) {a:pJ} (hs:Rf P t=some a):
 ∃ x:V,a.Is x/\Rel (Eb (bI W)) x v:=by
 obtain ⟨fuel,h⟩:=h
 have agg:∀ cs,v=.agg cs->∀ r,Ao P 40 t=some r->a=(true,r)->∃ x:V,a.Is x/\Rel (Eb (bI W)) x v:=by
  rintro cs rfl r hr rfl
  obtain ⟨row,h1,h2⟩:=uX _ _ _ _ _ _ h hr
  refine ⟨.agg row,⟨row,rfl,h1⟩,.agg _ _ (by have:=h2.1;simpa [Value.cells] using this.symm) (fun j x hx=>?_) (fun j u x hj hx=>.deep (h2.2 j u x hj (by simpa [Value.cells] using hx)))⟩
  have cL:j<row.length:=by
   have h3:=h2.1
   simp only [Value.cells,Array.length_toList] at h3
   have:=(Array.getElem?_eq_some_iff.1 hx).1
   omega
  exact (h2.2 j row[j] x (List.getElem?_eq_getElem cL) (by simpa [Value.cells] using hx)).aeW
 have one:v.cells=#[v]->∀ r,Ao P 40 t=some r->a=(false,r)->∃ x:V,a.Is x/\Rel (Eb (bI W)) x v:=by
  rintro hc r hr rfl
  obtain ⟨row,h1,h2⟩:=uX _ _ _ _ _ _ h hr
  have hl:=h2.1
  rw [hc] at hl h2
  match row,hl,h1,h2 with
  |[x],_,h1,h2=>exact ⟨x,h1,.deep (h2.2 0 x v rfl rfl)⟩
 unfold Rf at hs
 split at hs
 · rename_i fs ht
   obtain ⟨r,hr,rfl⟩:=Option.map_eq_some_iff.1 hs
   obtain ⟨cs,rfl,_⟩:=okWide_struct ht dZ
   exact agg cs rfl r hr rfl
 · rename_i n e ht
   obtain ⟨r,hr,rfl⟩:=Option.map_eq_some_iff.1 hs
   have:∃ cs,v=.agg cs:=by
    unfold Value.okWide at dZ
    rw [ht] at dZ
    obtain ⟨cs,h,_⟩:=dZ
    exact ⟨cs,h⟩
   obtain ⟨cs,rfl⟩:=this
   exact agg cs rfl r hr rfl
 · rename_i Sv MK
   obtain ⟨r,hr,rfl⟩:=Option.map_eq_some_iff.1 hs
   refine one ?_ r hr rfl
   have Cu:=hr
   obtain ⟨m,hm⟩:∃ m,40=m+1:=⟨39,rfl⟩
   rw [hm] at Cu
   simp only [Ao] at Cu
   split at Cu
   · rename_i ht;obtain ⟨b,rfl⟩:=okWide_bool ht dZ;rfl
   · rename_i k ht;obtain ⟨n,rfl⟩:=okWide_int ht dZ;rfl
   · rename_i ht;obtain ⟨s,rfl⟩:=okWide_string ht dZ;rfl
   · rename_i e ht;obtain ⟨p,l,c,rfl⟩:=okWide_slice ht dZ;rfl
   · rename_i fs ht;exact absurd ht (Sv fs)
   · rename_i n e ht;exact absurd ht (MK n e)
   · cases Cu
theorem ML {base:Nat}:∀ {ts:List TypeId} {vs:List Value} {ds:List (DataW H)} {p:List MemPlace} {aoP:List pJ},DataW.TrodAll enc P W 0 (fun _=>true) true ts vs ds p->
 (∀ (j:Nat) t v,ts[j]? =some t->vs[j]? =some v->Value.okWide P W .any base t v)->Ec P ts=some aoP->ds.length=ts.length/\vs.length=ts.length/\∃ args,Bg aoP args/\eI (Eb (bI W)) args vs.toArray
 |[],[],[],p,aoP,h,dZ,hs=>by
  simp only [Ec,Option.some.injEq] at hs
  subst hs
  exact ⟨rfl,rfl,[],trivial,rfl,fun j v x hj=>by simp at hj⟩
 |t::ts,v::vs,d::ds,p,aoP,h,dZ,hs=>by
  obtain ⟨p1,q,h1,h2,rfl⟩:=h
  simp only [Ec] at hs
  split at hs
  case h_2=>cases hs
  rename_i a b ha hb
  cases hs
  obtain ⟨x,x1,x2⟩:=Wz h1 (dZ 0 t v rfl rfl) ha
  obtain ⟨l1,l2,xs,y1,y2⟩:=ML h2 (fun j t v hj hv=>dZ (j+1) t v (by simpa using hj) (by simpa using hv)) hb
  refine ⟨by simp [l1],by simp [l2],x::xs,⟨x1,y1⟩,by have:=y2.1;simpa using this,fun j u y hj hy=>?_⟩
  cases j with
  |zero=>simp at hj hy;subst hj;subst hy;exact x2
  |succ j=>exact y2.2 j u y (by simpa using hj) (by simpa using hy)
 |[],[],_::_,_,_,h,_,_=>h.elim
 |[],_::_,[],_,_,h,_,_=>h.elim
 |[],_::_,_::_,_,_,h,_,_=>h.elim
 |_::_,[],[],_,_,h,_,_=>h.elim
 |_::_,[],_::_,_,_,h,_,_=>h.elim
 |_::_,_::_,[],_,_,h,_,_=>h.elim
theorem Jy (hl:laidOutB P=true) {W':World} {XQ:Nat->Bool}:∀ {ts:List TypeId} {vs:List Value} {ds:List (DataW H)} {p:List MemPlace},(∀ t∈ts,P.readableRec t=true/\t<P.types.size)->
 DataW.TrodAll enc P W 0 (fun _=>true) true ts vs ds p->(∀ x∈p,W.sameAt W' x)->(∀ x∈p,XQ x.block=true)->DataW.TrodAll enc P W' 0 XQ true ts vs ds p
 |[],[],[],p,_,h,_,_=>h
 |t::ts,v::vs,d::ds,p,hr,h,h1,h2=>by
  obtain ⟨p1,q,a1,a2,rfl⟩:=h
  exact ⟨p1,q,WideElems.Trod_stays hl (hr t (by simp)).1 (hr t (by simp)).2 a1 (fun x hx=>h1 x (by simp [hx])) (fun x hx=>h2 x (by simp [hx])),
   Jy hl (fun t ht=>hr t (by simp [ht])) a2 (fun x hx=>h1 x (by simp [hx])) (fun x hx=>h2 x (by simp [hx])),rfl⟩
 |[],[],_::_,_,_,h,_,_=>h.elim
 |[],_::_,[],_,_,h,_,_=>h.elim
 |[],_::_,_::_,_,_,h,_,_=>h.elim
 |_::_,[],[],_,_,h,_,_=>h.elim
 |_::_,[],_::_,_,_,h,_,_=>h.elim
 |_::_,_::_,[],_,_,h,_,_=>h.elim
theorem Ft {f:Func} {s:ChangeSpec} {apart fresh handsOn again:Bool} {W W':World} {args:Array Value} {v:Value} {ds gs:List (DataW H)} {before pa pv:List MemPlace}
 (hW:DataW.Whole enc P f.params.toList s.vars apart W args.toList ds gs before)
 (Ck:∀ (b:Nat) (sp:Nat->Bool) (hd:Bool),DataW.TrodAll enc P W' b sp hd f.resultTypes.toList (v.resultList f.resultTypes.size) (s.fn H (ds++gs)).results [])
 (U4:∀ sp:Nat->Bool,(∀ p∈before,sp p.block=true)->DataW.TrodAll enc P W' 0 sp true f.params.toList args.toList (s.fn H (ds++gs)).args pa)
 (U5:∀ sp:Nat->Bool,(∀ p∈before,sp p.block=true)->DataW.TrodVars enc P W' sp s.vars (s.fn H (ds++gs)).vars pv)
 (UB:before=pa++pv) (hb:Below W.heap.size W W')
 (dZ:∀ (j:Nat) (t:TypeId) (r:Value),f.resultTypes[j]? =some t->(v.resultList f.resultTypes.size)[j]? =some r->Value.okWide P W' .any 0 t r):
 s.post enc P f apart fresh handsOn again W args v W':=by
 have hold:∀ p∈before,(fun b=>decide (b<W.heap.size)) p.block=true:=fun p hp=>by simpa using hW.lt p hp
 have hk:W.keptBut W' (·∈before):=by
  refine ⟨hb.os,hb.output,fun i hi=>?_⟩
  rw [hb.block i hi]
  cases hq:W.heap[i]? with
  |none=>rfl
  |some o=>cases o<;>simp
 refine ⟨ds,gs,before,[],pa,pv,hW,Ck _ _ _,U4 _ hold,U5 _ hold,World.keptBut_mono (fun p hp=>⟨hp,?_⟩) hk,fun _=>?_⟩
 · rw [UB,List.mem_append] at hp
   exact Or.inr hp
 · have cL:=hW.lt
   obtain ⟨_,_,_,_,_,hz,hn⟩:=hW
   refine ⟨dZ,_,_,([]++pa)++pv,⟨[]++pa,pv,trodAll_append (U4 _ (fun _ _=>rfl)) (Ck _ _ _),U5 _ (fun _ _=>rfl),rfl,?_,?_⟩,?_⟩
   · intro b off hp
     have SY:MemPlace.cell b off∈before:=by rw [UB];simpa using hp
     have:=hz b off SY
     have Sw:=cL _ SY
     simp only [World.frozen?] at this ⊢
     rw [hb.block b Sw]
     exact this
   · intro ha
     have:=hn ha
     rw [UB] at this
     simpa using this
   · intro p hp _
     rw [UB]
     simpa using hp
theorem law_lifted {C:Checked} {os:Os} {f:FuncId} {fn:Func} {s:ChangeSpec} {conds:List PathCond} {tb:TypeId} {shs:List pJ} (own:ownKnob C.prog.godebug=none) (started:os.Started) (WA:C.prog.inits.idxOf? f=none) (FL:C.prog.funcs[f]? =some fn)
 (witness:∃ (w:World) (tape:Tape) (i:Input),w.os=os/\(w.forCall tape i).Shaped C.prog/\i.vars=[]/\Input.okWide C.prog (w.forCall tape i) .any w.heap.size f i/\
   s.pre6 enc C.prog fn conds false (w.forCall tape i).memory i.args/\({}:Assume).holds C.prog (lone (Frame.enter C.prog f i.args .normal) [] (w.forCall tape i)))
 (hl:laidOutB C.prog=true) (hr:fn.params.toList.all (fun t=>C.prog.readableRec t&&decide (t<C.prog.types.size))=true) (hv:s.vars=[]) (qT:Ec C.prog fn.params.toList=some shs)
 (Ck:fn.resultTypes=#[tb]) (hb:C.prog.underlying tb=some .bool)
 (ZI:∀ ds:List (DataW H),ds.length=fn.params.toList.length->s.fn H ds={ results:=[.lit (.bool true)],args:=ds })
 (h:∀ args,Bg shs args->aB C.prog f args gZ (fun r _=>r=.b true)):
 ReturnsInHanded {} C os f .any (s.pre6 enc C.prog fn conds false) (s.post enc C.prog fn false true false false):=by
 refine returnsInHanded_of_change own started WA FL witness ?_
 intro W base args ds gs before aeX hW _ _
 have hW':=hW
 obtain ⟨p,q,hA,hV,rfl,Kc,Sk⟩:=hW
 rw [hv] at hV
 obtain ⟨rfl,rfl⟩:=trodVars_none hV
 obtain ⟨l1,l2,vs,a1,a2⟩:=ML hA (fun j t v h1 h2=>aeX j t v (by simpa using h1) (by simpa using h2)) qT
 simp only [List.append_nil] at hW'
 have cL:∀ x∈p,x.block<W.heap.size:=hW'.lt
 refine (LA (h vs a1) W (fun b o x hx=>hx) (by simpa using a2)).mono ?_
 rintro e W' ⟨rfl,Sw⟩
 refine ⟨_,rfl,?_⟩
 have hsp:=ZI ds l1
 have Cu:∀ t∈fn.params.toList,C.prog.readableRec t=true/\t<C.prog.types.size:=fun t ht=>by
  have:=List.all_eq_true.1 hr t ht
  simpa using this
 have ZJ:∀ XQ:Nat->Bool,(∀ x∈p,XQ x.block=true)->DataW.TrodAll enc C.prog W' 0 XQ true fn.params.toList args.toList ds p:=fun XQ h2=>
  Jy hl Cu hA (fun x hx=>Sw.same (cL x hx)) h2
 have dZ:∀ (j:Nat) (t:TypeId) (r:Value),fn.resultTypes[j]? =some t->((Value.bool true).resultList fn.resultTypes.size)[j]? =some r->Value.okWide C.prog W' .any 0 t r:=ok_one Ck rfl (okWide_bool_mk hb true)
 refine Ft (pa:=p) (pv:=[]) hW' (fun b sp hd=>?_) (fun sp h2=>?_) (fun sp h2=>?_) (by simp) Sw dZ
 · rw [List.append_nil,hsp,Ck]
   exact trodAll_mk1 (shut_bool hb true)
 · rw [List.append_nil,hsp]
   exact ZJ sp h2
 · rw [List.append_nil,hsp,hv]
   rfl
end
open Go
theorem TD {a:Sh} {e:List V} (h:Sh.nT [a] e):∃ v,e=[v]/\a.is v:=by
 cases e with
 |nil=>simp [Sh.nT] at h
 |cons v r=>
  cases r with
  |nil=>exact ⟨v,rfl,by simpa [Sh.nT] using h⟩
  |cons _ _=>simp [Sh.nT] at h
theorem TE {e:List V} (h:Sh.nT [.i .i64] e):∃ n,e=[.i .i64 n]/\-9223372036854775808<=n/\n<=9223372036854775807:=by
 obtain ⟨v,rfl,h2⟩:=TD h
 simp only [Sh.is] at h2
 obtain ⟨n,rfl,h1,h3⟩:=h2
 exact ⟨n,rfl,by simpa [IntKind.min,IntKind.bits,IntKind.signed] using h1,by simpa [IntKind.max,IntKind.bits,IntKind.signed] using h3⟩
theorem Rg {vs:List V} (h:Bg [] vs):vs=[]:=by
 cases vs with
 |nil=>rfl
 |cons _ _=>exact h.elim
theorem wC {a:pJ} {aoP:List pJ} {vs:List V} (h:Bg (a::aoP) vs):∃ v q,vs=v::q/\a.Is v/\Bg aoP q:=by
 cases vs with
 |nil=>exact h.elim
 |cons v q=>exact ⟨v,q,rfl,h.1,h.2⟩
theorem TF {v:V} (h:pJ.Is (false,[.i .i64]) v):∃ n,v=.i .i64 n/\-9223372036854775808<=n/\n<=9223372036854775807:=by
 obtain ⟨n,h1,h2⟩:=TE h
 exact ⟨n,by simpa using h1,h2⟩
end Go.Eng
